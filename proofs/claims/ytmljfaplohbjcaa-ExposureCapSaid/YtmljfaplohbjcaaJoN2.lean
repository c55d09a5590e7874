/- Contract of nat.divLong: the quotient and the remainder of numbers in normal form, the divisor of at least two limbs and not longer than the dividend. Contracts of nat.DivMod and nat.Gcd: for all numbers of at most 2^40 limbs. Contracts of integer.Make, Of, Sign and Neg: for all integers of at most 2^40 limbs. Contracts of integer.Sign, Neg, Mul, Add and Cmp: for all integers of at most 2^39 limbs. Contracts of integer.Add and Cmp: for all integers of at most 2^38 limbs. Contract of integer.Cmp: for all integers. -/
import Derived.Test.YtmljfaplohbjcaaJoN1
import Derived.Test.YtmljfaplohbjcaaShelfB
import Derived.Lib.ItoaNum
import Derived.Deep.RegionWith
import Derived.Deep.LoopGhost
import Derived.Deep.RegionHeld3
namespace Go.Proofs.Ytmljfaplohbjcaa
open Go.RowKit

/-- the shift that brings the top bit up -/
theorem lead_zeros (v : Nat) (h0 : v ≠ 0) (h : v < 4294967296) : ∃ s : Nat, s < 32 ∧ (32 - (Lib.bitLen v : Int)) = (s : Int) ∧ 2147483648 ≤ v * 2 ^ s ∧ v * 2 ^ s < 4294967296 := by
  obtain ⟨h1, h2, h3⟩ := Lib.bitLenAux_bounds 64 v (by omega) h0
  have h4 := Lib.bitLen_le v 32 (by omega) (by simpa using h)
  unfold Lib.bitLen at *
  generalize Lib.bitLenAux 64 v = b at *
  refine ⟨32 - b, by omega, by omega, ?_, ?_⟩
  · have := Nat.mul_le_mul_right (2 ^ (32 - b)) h2
    rw [← Nat.pow_add, show b - 1 + (32 - b) = 31 by omega] at this
    exact this
  · have := Nat.mul_lt_mul_of_pos_right h3 (Nat.pow_pos (show 0 < 2 by decide) (n := 32 - b))
    rw [← Nat.pow_add, show b + (32 - b) = 32 by omega] at this
    exact this

/-- the divisor, shifted -/
theorem dsh_lt (b n s : Nat) (hn : nlen b = n + 1) (hs : dig b n * 2 ^ s < 4294967296) : b * 2 ^ s < B ^ (n + 1) := by
  have h1 := lt_pow_nlen b
  rw [hn] at h1
  have h2 := div_top b n
  rw [Nat.div_eq_of_lt h1, Nat.mul_zero, Nat.zero_add] at h2
  have h3 : b < (dig b n + 1) * B ^ n := by rw [← h2, Nat.mul_comm]; exact Nat.lt_mul_div_succ b (pB n)
  have h4 := Nat.mul_lt_mul_of_pos_right h3 (Nat.pow_pos (show 0 < 2 by decide) (n := s))
  refine Nat.lt_of_lt_of_le h4 ?_
  have h5 : (dig b n + 1) * 2 ^ s ≤ B := by
    rcases Nat.lt_or_ge 32 s with h6 | h6
    · have := top_ne b n hn
      have h7 := Nat.mul_le_mul (show 1 ≤ dig b n by omega) (Nat.pow_le_pow_right (show 0 < 2 by decide) (show 33 ≤ s by omega))
      simp at h7
      omega
    · have h8 : B = 2 ^ s * 2 ^ (32 - s) := by rw [← Nat.pow_add, show s + (32 - s) = 32 by omega]; rfl
      rw [h8]
      have h9 : dig b n * 2 ^ s < 2 ^ (32 - s) * 2 ^ s := by rw [Nat.mul_comm (2 ^ (32 - s)), ← h8]; exact hs
      have h10 := Nat.lt_of_mul_lt_mul_right h9
      rw [Nat.mul_comm (2 ^ s)]
      exact Nat.mul_le_mul_right _ h10
  calc (dig b n + 1) * B ^ n * 2 ^ s = (dig b n + 1) * 2 ^ s * B ^ n := by rw [Nat.mul_assoc, Nat.mul_comm (B ^ n), ← Nat.mul_assoc]
    _ ≤ B * B ^ n := Nat.mul_le_mul_right _ h5
    _ = B ^ (n + 1) := by rw [pB_succ, Nat.mul_comm]
theorem dsh_top (b n s : Nat) (hn : nlen b = n + 1) (hs : dig b n * 2 ^ s < 4294967296) (h31 : 2147483648 ≤ dig b n * 2 ^ s) : 2147483648 ≤ dig (b * 2 ^ s) n := by
  have hl := dsh_lt b n s hn hs
  have e : dig (b * 2 ^ s) n = b * 2 ^ s / B ^ n := by
    unfold dig
    exact Nat.mod_eq_of_lt ((Nat.div_lt_iff_lt_mul (pB n)).2 (by rw [Nat.mul_comm B (B ^ n), ← pB_succ]; exact hl))
  rw [e]
  refine Nat.le_trans h31 ((Nat.le_div_iff_mul_le (pB n)).2 ?_)
  have h1 := lt_pow_nlen b
  rw [hn] at h1
  have h2 := div_top b n
  rw [Nat.div_eq_of_lt h1, Nat.mul_zero, Nat.zero_add] at h2
  rw [← h2, Nat.mul_assoc, Nat.mul_comm (2 ^ s), ← Nat.mul_assoc]
  exact Nat.mul_le_mul_right _ (Nat.div_mul_le_self b _)

/-- the rest above place k, and one step -/
theorem rest_part (A D j : Nat) (_hD : 0 < D) : A % (D * B ^ (j + 1)) / B ^ j / D = dig (A / D) j := by
  rw [Nat.div_div_eq_div_mul, Nat.mul_comm (B ^ j), pB_succ, ← Nat.mul_assoc, Nat.mod_mul_right_div_self]
  unfold dig
  rw [Nat.div_div_eq_div_mul]
theorem rest_lt (A D k : Nat) (hD : 0 < D) : A % (D * B ^ k) < D * B ^ k := Nat.mod_lt _ (Nat.mul_pos hD (pB k))
theorem rest_next (A D j : Nat) (hD : 0 < D) : A % (D * B ^ j) = A % (D * B ^ (j + 1)) - dig (A / D) j * D * B ^ j := by
  have h1 := rest_part A D j hD
  have e : A % (D * B ^ j) = A % (D * B ^ (j + 1)) % (D * B ^ j) := by
    rw [pB_succ, ← Nat.mul_assoc]; exact (Nat.mod_mul_right_mod A (D * B ^ j) B).symm
  rw [e, ← h1, Nat.div_div_eq_div_mul, Nat.mul_comm (B ^ j)]
  generalize A % (D * B ^ (j + 1)) = R
  have := Nat.div_add_mod R (D * B ^ j)
  have e2 : R / (D * B ^ j) * D * B ^ j = D * B ^ j * (R / (D * B ^ j)) := by rw [Nat.mul_assoc, Nat.mul_comm]
  omega

/-- the row of the rest behind the subtraction -/
theorem rest_row (R D j n q i : Nat) (hR : R < D * B ^ (j + 1)) (hD : D < B ^ n) (hq : q * D * B ^ j ≤ R) (hqn : q < B) :
    dig (R - q * D * B ^ j) i = if j ≤ i ∧ i < j + (n + 1) then dig (R / B ^ j + B ^ (n + 1) - q * D) (i - j) else dig R i := by
  have hRn : R < B ^ (j + (n + 1)) := by
    refine Nat.lt_of_lt_of_le hR ?_
    rw [show j + (n + 1) = n + (j + 1) by omega, Nat.pow_add B n (j + 1)]
    exact Nat.mul_le_mul_right _ (Nat.le_of_lt hD)
  have hqD := qd_lt q D n hD hqn
  have hqp : q * D ≤ R / B ^ j := (Nat.le_div_iff_mul_le (pB j)).2 hq
  by_cases h1 : i < j
  · rw [if_neg (by omega)]
    have e : R = (R - q * D * B ^ j) + B ^ j * (q * D) := by rw [Nat.mul_comm (B ^ j)]; omega
    conv => rhs; rw [e]
    rw [dig_add_mul _ _ _ _ h1]
  · by_cases h2 : i < j + (n + 1)
    · rw [if_pos ⟨by omega, h2⟩]
      have e1 : R / B ^ j + B ^ (n + 1) - q * D = (R / B ^ j - q * D) + B ^ (n + 1) := by omega
      rw [e1, dig_up _ (n + 1) (i - j) (by omega)]
      have e2 : R / B ^ j - q * D = (R - q * D * B ^ j) / B ^ j := by
        rw [Nat.mul_comm (q * D), Nat.sub_mul_div_of_le]
        rw [Nat.mul_comm]; exact hq
      rw [e2]
      unfold dig
      rw [Nat.div_div_eq_div_mul, ← Nat.pow_add, show j + (i - j) = i by omega]
    · rw [if_neg (by omega), dig_high' R (j + (n + 1)) i hRn (by omega), dig_high' _ (j + (n + 1)) i (Nat.lt_of_le_of_lt (Nat.sub_le _ _) hRn) (by omega)]


theorem first_lt (a b s : Nat) (hs : s < 32) (h1 : 1 ≤ nlen b) (hba : nlen b ≤ nlen a) (hD : b * 2 ^ s < B ^ nlen b) (ht : 2147483648 ≤ dig (b * 2 ^ s) (nlen b - 1)) : a * 2 ^ s < b * 2 ^ s * B ^ (nlen a - nlen b + 1) := by
  have h2 : 2147483648 * B ^ (nlen b - 1) ≤ b * 2 ^ s := by
    have e := div_top (b * 2 ^ s) (nlen b - 1)
    rw [show nlen b - 1 + 1 = nlen b by omega, Nat.div_eq_of_lt hD, Nat.mul_zero, Nat.zero_add] at e
    rw [← e] at ht
    exact Nat.le_trans (Nat.mul_le_mul_right _ ht) (Nat.div_mul_le_self _ _)
  have h3 := Nat.mul_le_mul_right (B ^ (nlen a - nlen b + 1)) h2
  rw [Nat.mul_assoc, ← Nat.pow_add, show nlen b - 1 + (nlen a - nlen b + 1) = nlen a by omega] at h3
  refine Nat.lt_of_lt_of_le ?_ h3
  rw [Nat.mul_comm 2147483648]
  exact Nat.mul_lt_mul_of_lt_of_le (lt_pow_nlen a) (two_le s hs) (by decide)

theorem quot_lt (a b s : Nat) {A D : Nat} (hD : b * 2 ^ s = D) (hA : a * 2 ^ s = A) (hn2 : 2 ≤ nlen b) (hba : nlen b ≤ nlen a) : A / D < B ^ (nlen a - nlen b + 1) := by
  subst hD hA
  rw [Nat.mul_div_mul_right _ _ (Nat.pow_pos (by decide))]
  have h1 := pow_le_of_nlen (m := b) (n := nlen b - 1) (by omega)
  have hb0 : 0 < b := Nat.lt_of_lt_of_le (pB _) h1
  refine (Nat.div_lt_iff_lt_mul hb0).2 (Nat.lt_of_lt_of_le (lt_pow_nlen a) ?_)
  refine Nat.le_trans ?_ (Nat.mul_le_mul_left _ h1)
  rw [← Nat.pow_add]
  exact pB_le (by omega)

theorem bel_of_drew {K : Nat} {w w' : World} (h : Below K w.drew w') : Below K w w' := ⟨h.os, h.tape, h.output, h.size, h.block⟩
theorem bel_of_drewN {K q : Nat} {w w' : World} (h : Below K (w.drewN q) w') : Below K w w' := ⟨h.os, h.tape, h.output, h.size, h.block⟩
theorem row_drewN {w : World} {b t n q : Nat} {f : Nat → Value} (h : w.rowIs b t n f) : (w.drewN q).rowIs b t n f := h
theorem row_below {w w' : World} {b t n : Nat} {f : Nat → Value} (h : w.rowIs b t n f) (hb : Below w.heap.size w w') : w'.rowIs b t n f := h.of_block (hb.block b h.lt)
theorem row_grown {w w' : World} {b t n r : Nat} {f : Nat → Value} (h : w.rowIs b t n f) (hb : w.grownBy w' (some r)) (hne : b ≠ r) : w'.rowIs b t n f := h.of_block (hb.block b h.lt (by simpa using hne))

set_option maxHeartbeats 2000000 in
set_option maxRecDepth 100000 in
theorem divLong_any {N : Nat} (a b : Option Addr) (ca ma cb mb : Nat) (w : World) (_hN : N ≤ w.heap.size) (ha : Nt N w a (nlen ma) ca ma) (hb : Nt N w b (nlen mb) cb mb) (la : nlen ma ≤ 1099511627776) (hn2 : 2 ≤ nlen mb) (hnm : nlen mb ≤ nlen ma) :
    Calls Try.prog 82 #[.slice a (nlen ma) ca, .slice b (nlen mb) cb] w fun e w' => ∃ r cr r2 cr2, e = .returned (.tuple #[.slice r (nlen (ma / mb)) cr, .slice r2 (nlen (ma % mb)) cr2]) ∧ Nt N w' r (nlen (ma / mb)) cr (ma / mb) ∧ Nt N w' r2 (nlen (ma % mb)) cr2 (ma % mb) ∧ Below w.heap.size w w' := by
  have htop := top_ne mb (nlen mb - 1) (by omega)
  have dtop := dig_lt' mb (nlen mb - 1)
  obtain ⟨s, hs32, hs, hs1, hs2⟩ := lead_zeros (dig mb (nlen mb - 1)) htop dtop
  have hDlt := dsh_lt mb (nlen mb - 1) s (by omega) hs2
  have hDtop := dsh_top mb (nlen mb - 1) s (by omega) hs2 hs1
  rw [show nlen mb - 1 + 1 = nlen mb by omega] at hDlt
  obtain ⟨b1, o1, rfl, _, hcb⟩ := hb.2.2.2 (by omega)
  have hcell := hcb (nlen mb - 1) (by omega)
  clear hcb
  have z1 : ((nlen mb : Int) - 1).toNat = nlen mb - 1 := by omega
  have HA := Lib.hid ha
  have HB := Lib.hid hb
  have HS := Lib.hid hs
  have HDlt := Lib.hid hDlt
  have HDtop := Lib.hid hDtop
  clear ha hb hs hDlt hDtop hs1 hs2 htop
  have hmk := run_make_row' (P := Try.prog) 34 90 (.int .u32 0) 4 Try.underNat Try.infoU32 rfl .i64 .i64 (nlen ma - nlen mb + 1) (by omega) (by omega)
  have ec : ((nlen ma - nlen mb + 1 : Nat) : Int) = (nlen ma : Int) - (nlen mb : Int) + 1 := by omega
  rw [ec] at hmk
  clear ec
  go_enter Try.func82, Try.ntmps82
  go_wp2_with fail
  refine (Try.bits_LeadingZeros32 _ _ (by omega) (by omega)).mono ?_
  rintro e w' ⟨rfl, hw⟩
  obtain rfl := hw.symm
  rw [Int.toNat_natCast, HS.out]
  go_wp2_with fail
  refine (shl_any _ _ _ _ _ _ HB.out (by omega) hs32).mono ?_
  rintro e w1 ⟨rfl, hr1, hb1⟩
  have HR1 := Lib.hid hr1
  have HB1 := Lib.hid hb1
  have sz1 : w.heap.size < w1.heap.size := hr1.lt
  clear hr1 hb1
  go_wp2_with fail
  refine (shl_any (N := N) _ _ _ _ _ _ (HA.out.below HB1.out) (by omega) hs32).mono ?_
  rintro e w2 ⟨rfl, hr2, hb2⟩
  have HR2 := Lib.hid hr2
  have HB2 := Lib.hid hb2
  have sz2 : w1.heap.size < w2.heap.size := hr2.lt
  have hD0 : 0 < mb * 2 ^ s := Nat.mul_pos (by rcases Nat.eq_zero_or_pos mb with h | h; (· subst h; rw [nlen_zero] at hn2; omega); (· exact h)) (Nat.pow_pos (by decide))
  have HD0 := Lib.hid hD0
  have hstart : ma * 2 ^ s % (mb * 2 ^ s * B ^ (nlen ma - nlen mb + 1)) = ma * 2 ^ s := Nat.mod_eq_of_lt (first_lt ma mb s hs32 (by omega) hnm HDlt.out HDtop.out)
  have HST := Lib.hid hstart
  clear hr2 hb2 hD0 hstart
  generalize hD : mb * 2 ^ s = D at *
  generalize hA : ma * 2 ^ s = A at *
  have HDE := Lib.hid hD
  have HAE := Lib.hid hA
  clear hD hA hcell
  go_wp2_with fail
  go_loopw [11] (fun i wr => ∃ k : Nat, k ≤ nlen ma - nlen mb + 1 ∧ i = .int .i64 ((k : Int) - 1) ∧ wr.rowIs w.heap.size 90 (nlen mb + 1) (fun i => .int .u32 (dig D i)) ∧ wr.rowIs w1.heap.size 90 (nlen ma + 1) (fun i => .int .u32 (dig (A % (D * B ^ k)) i)) ∧ wr.rowIs w2.heap.size 90 (nlen ma - nlen mb + 1) (divRow (A / D) k) ∧ Below w.heap.size w wr) (fun i _ => (intOf i + 1).toNat)
  case atStart =>
    refine ⟨nlen ma - nlen mb + 1, Nat.le_refl _, i64_congr (by omega), (row_below HR1.out HB2.out).alloc _, (HR2.out.alloc _).congr (fun i _ => by rw [HST.out]), (World.rowIs_made _ _ _ _).congr (fun i hi => by simp only [divRow]; rw [if_neg (by omega)]; rfl), ((HB1.out.trans (HB2.out.mono (by omega))).alloc (by omega) _)⟩
  case round =>
    obtain ⟨k, hk, rfl, hr1, hr2, hr3, hbel⟩ := hrel
    have h1 := Lib.hid hr1
    have h2 := Lib.hid hr2
    have h3 := Lib.hid hr3
    have hb := Lib.hid hbel
    clear hr1 hr2 hr3 hbel hmk
    by_cases hk0 : 0 < k
    · have z2 : ((k : Int) - 1).toNat = k - 1 := by omega
      have g1 : (0 : Int) ≤ (k : Int) - 1 := by omega
      have z3 : ((k : Int) - 1 + (nlen mb : Int) + 1).toNat = k + nlen mb := by omega
      have z4 : k + nlen mb - (k - 1) = nlen mb + 1 := by omega
      have e1 : k - 1 + 1 = k := by omega
      have hRlt : A % (D * B ^ k) < D * B ^ (k - 1 + 1) := by rw [e1]; exact rest_lt A D k HD0.out
      have hp1 : A % (D * B ^ k) / B ^ (k - 1) < D * B := by
        refine (Nat.div_lt_iff_lt_mul (pB _)).2 ?_
        rw [Nat.mul_assoc, Nat.mul_comm B, ← pB_succ]; exact hRlt
      have hp2 : A % (D * B ^ k) / B ^ (k - 1) < B ^ (nlen mb + 1) := by
        rw [pB_succ]; exact Nat.lt_trans hp1 (Nat.mul_lt_mul_of_pos_right HDlt.out B_pos)
      have hq : A % (D * B ^ k) / B ^ (k - 1) / D = dig (A / D) (k - 1) := by
        have := rest_part A D (k - 1) HD0.out
        rwa [e1] at this
      have hnx : A % (D * B ^ (k - 1)) = A % (D * B ^ k) - dig (A / D) (k - 1) * D * B ^ (k - 1) := by
        have := rest_next A D (k - 1) HD0.out
        rwa [e1] at this
      have hqD : dig (A / D) (k - 1) * D ≤ A % (D * B ^ k) / B ^ (k - 1) := by rw [← hq]; exact Nat.div_mul_le_self _ _
      have hqD2 : A % (D * B ^ k) / B ^ (k - 1) < (dig (A / D) (k - 1) + 1) * D := by rw [← hq, Nat.mul_comm _ D]; exact Nat.lt_mul_div_succ _ HD0.out
      have hqR : dig (A / D) (k - 1) * D * B ^ (k - 1) ≤ A % (D * B ^ k) := by
        exact Nat.le_trans (Nat.mul_le_mul_right _ hqD) (Nat.div_mul_le_self _ _)
      have hrr : ∀ i, dig (A % (D * B ^ (k - 1))) i = _ := fun i => (congrArg (fun z => dig z i) hnx).trans (rest_row _ D (k - 1) (nlen mb) (dig (A / D) (k - 1)) i hRlt HDlt.out hqR (dig_lt _ _))
      have hpd : ∀ i, dig (A % (D * B ^ k)) (k - 1 + i) = dig (A % (D * B ^ k) / B ^ (k - 1)) i := fun i => by
        unfold dig; rw [Nat.div_div_eq_div_mul, ← Nat.pow_add]
      have hqlt := dig_lt' (A / D) (k - 1)
      generalize hR : A % (D * B ^ k) = R at *
      generalize hP : R / B ^ (k - 1) = p at *
      have Hp1 := Lib.hid hp1
      have Hp2 := Lib.hid hp2
      have Hq := Lib.hid hq
      have HqD := Lib.hid hqD
      have HqD2 := Lib.hid hqD2
      have Hrr := Lib.hid hrr
      have Hpd := Lib.hid hpd
      clear hRlt hp1 hp2 hq hnx hqD hqD2 hqR hrr hpd hR hP
      generalize hqq : dig (A / D) (k - 1) = q at *
      have Hqq := Lib.hid hqq
      clear hqq e1
      go_wp2_with fail
      refine (estimate_any _ _ _ _ _ _ p D wr (fun i hi => ?_) (fun i hi => h1.out.cell (by omega)) HDlt.out HDtop.out Hp1.out (by omega) hn2).mono ?_
      · rw [h2.out.cell (by omega), Hpd.out]
      rintro e w4 ⟨Q, q4, rfl, hQ1, hQ2, hQ3, rfl⟩
      rw [Hq.out] at hQ1 hQ2
      rcases (show Q = q ∨ Q = q + 1 by omega) with rfl | rfl
      · clear hQ1 hQ2
        go_wp2_with fail
        refine (subtract_any _ _ (nlen ma + 1) _ _ _ _ p D Q _ _ (row_drewN h2.out) (fun i hi => by rw [Hpd.out]) (by omega) Hp2.out HDlt.out (fun i hi => (row_drewN h1.out).cell (by omega)) (by omega) hQ3 (by omega) (by omega)).mono ?_
        rintro e w5 ⟨rfl, hr5, hg5⟩
        have hno : decide (p < Q * D) = false := by have := HqD.out; simpa using this
        rw [hno]
        have hq5 := row_grown (row_drewN (q := q4) h3.out) hg5 (by omega)
        have hcq : ∃ v, w5.cell? ⟨w2.heap.size, k - 1, none⟩ = some v := ⟨_, hq5.cell (i := k - 1) (by omega)⟩
        obtain ⟨vq, hcq⟩ := hcq
        have hfq := hq5.frozen (k - 1)
        have H5 := Lib.hid hr5
        have HQ5 := Lib.hid hq5
        have HG5 := Lib.hid hg5
        clear hno hr5 hq5 hg5
        go_wp2_with fail
        go_roundw
        case rel =>
          have hsz5 := HG5.out.size
          have hrow2 : w5.rowIs w1.heap.size 90 (nlen ma + 1) (fun i => .int .u32 (dig (A % (D * B ^ (k - 1))) i)) := H5.out.congr fun i hi => by
            have := Hrr.out i
            rw [this]
            unfold subRow
            split <;> rfl
          refine ⟨k - 1, by omega, i64_congr (by omega), (row_grown (row_drewN h1.out) HG5.out (by omega)).setOther (by show w.heap.size ≠ w2.heap.size; omega) _, hrow2.setOther (by show w1.heap.size ≠ w2.heap.size; omega) _, divRow_step (by rw [show k - 1 + 1 = k by omega]; exact HQ5.out) ?_, ?_⟩
          · rw [Hqq.out]
          · refine Below.setCell (Below.grown (below_drewN hb.out q4) HG5.out ?_ ?_) ?_ _
            · have := hb.out.size; exact this
            · rintro k' hk'; cases hk'; omega
            · show w.heap.size ≤ w2.heap.size; omega
        case measure => simp [intOf]; omega
      · clear hQ1 hQ2
        go_wp2_with fail
        refine (subtract_any _ _ (nlen ma + 1) _ _ _ _ p D (q + 1) _ _ (row_drewN h2.out) (fun i hi => by rw [Hpd.out]) (by omega) Hp2.out HDlt.out (fun i hi => (row_drewN h1.out).cell (by omega)) (by omega) hQ3 (by omega) (by omega)).mono ?_
        rintro e w5 ⟨rfl, hr5, hg5⟩
        have hyes : decide (p < (q + 1) * D) = true := by have := HqD2.out; simpa using this
        rw [hyes]
        have H5 := Lib.hid hr5
        have HG5 := Lib.hid hg5
        clear hyes hr5 hg5
        go_wp2_with fail
        have hqle : (q + 1) * D ≤ p + B ^ (nlen mb + 1) := by
          have := qd_lt (q + 1) D (nlen mb) HDlt.out hQ3
          omega
        have hpD : p + B ^ (nlen mb + 1) - (q + 1) * D + D = p + B ^ (nlen mb + 1) - q * D := by
          rw [Nat.add_mul, Nat.one_mul] at hqle ⊢
          omega
        refine (addBack_any _ _ (nlen ma + 1) _ _ _ _ (p + B ^ (nlen mb + 1) - (q + 1) * D) D _ _ H5.out (fun i hi => by unfold subRow; rw [if_pos (by omega), Nat.add_sub_cancel_left]) (by omega) HDlt.out (fun i hi => (row_grown (row_drewN h1.out) HG5.out (by omega)).cell (by omega)) (by omega) (by omega) (by omega)).mono ?_
        rw [hpD]
        clear hqle hpD
        rintro e w6 ⟨⟨v6, rfl⟩, hr6, hg6⟩
        have hq6 := row_grown (row_grown (row_drewN (q := q4) h3.out) HG5.out (by omega)) hg6 (by omega)
        have hcq : ∃ v, w6.cell? ⟨w2.heap.size, k - 1, none⟩ = some v := ⟨_, hq6.cell (i := k - 1) (by omega)⟩
        obtain ⟨vq, hcq⟩ := hcq
        have hfq := hq6.frozen (k - 1)
        have H6 := Lib.hid hr6
        have HQ6 := Lib.hid hq6
        have HG6 := Lib.hid (grown_trans HG5.out hg6)
        clear hr6 hq6 hg6
        go_wp2_with fail
        go_roundw
        case rel =>
          have hsz6 := HG6.out.size
          have hrow2 : w6.rowIs w1.heap.size 90 (nlen ma + 1) (fun i => .int .u32 (dig (A % (D * B ^ (k - 1))) i)) := H6.out.congr fun i hi => by
            have := Hrr.out i
            rw [this]
            unfold subRow
            split <;> rfl
          refine ⟨k - 1, by omega, i64_congr (by omega), (row_grown (row_drewN h1.out) HG6.out (by omega)).setOther (by show w.heap.size ≠ w2.heap.size; omega) _, hrow2.setOther (by show w1.heap.size ≠ w2.heap.size; omega) _, divRow_step (by rw [show k - 1 + 1 = k by omega]; exact HQ6.out) ?_, ?_⟩
          · rw [Hqq.out]; try omega
          · refine Below.setCell (Below.grown (below_drewN hb.out q4) HG6.out ?_ ?_) ?_ _
            · have := hb.out.size; exact this
            · rintro k' hk'; cases hk'; omega
            · show w.heap.size ≤ w2.heap.size; omega
        case measure => simp [intOf]; omega
    · obtain rfl : k = 0 := by omega
      have hq0 := Nt.of_row (N := N) h3.out (m := A / D) (by unfold maxLen; omega) (quot_lt ma mb s HDE.out HAE.out hn2 hnm) (fun i hi => by simp [divRow])
      have hr0 : Nt N wr (some ⟨w1.heap.size, 0, none⟩) (nlen mb) (nlen ma + 1) (A % D) := by
        have h4 := Nt.of_row (N := N) h2.out (m := A % D) (by unfold maxLen; omega) (Nat.lt_trans (Nat.mod_lt _ HD0.out) (Nat.lt_of_lt_of_le HDlt.out (pB_le (by omega)))) (fun i hi => by simp)
        exact h4.part (by omega) (Nat.lt_trans (Nat.mod_lt _ HD0.out) HDlt.out)
      have HQ0 := Lib.hid hq0
      have HR0 := Lib.hid hr0
      have hqe : A / D = ma / mb := by rw [← HDE.out, ← HAE.out]; exact Nat.mul_div_mul_right _ _ (Nat.pow_pos (by decide))
      have hre : A % D / 2 ^ s = ma % mb := by
        rw [← HDE.out, ← HAE.out, Nat.mul_mod_mul_right]; exact Nat.mul_div_cancel _ (Nat.pow_pos (by decide))
      rw [hqe] at HQ0
      have HRE := Lib.hid hre
      clear hq0 hr0 hqe hre
      go_wp2_with fail
      go_region_with (first | (go_at_call 52; refine (trim_any (N := N) _ _ _ _ _ (by first | exact HQ0.out | exact (HNS.out))).mono ?_; rintro e w' ⟨rfl, rfl⟩) | (go_at_call 107; refine (shr_any (N := N) _ _ _ (A % D) s _ (by exact HR0.out) (by omega) hs32).mono ?_; rw [HRE.out]; rintro e w7 ⟨r7, rfl, hn7, hb7⟩; have HNS := Lib.hid hn7; have HBS := Lib.hid hb7; clear hn7 hb7))
      all_goals
        go_wp2_with fail
        go_ret2
        exact ⟨_, _, _, _, rfl, (HQ0.out.trim).below (bel_of_drew HBS.out), HNS.out.trim, hb.out.trans ((bel_of_drew HBS.out).mono hb.out.size)⟩

end Go.Proofs.Ytmljfaplohbjcaa

namespace Go.Proofs.Ytmljfaplohbjcaa
open Go.RowKit

set_option maxHeartbeats 1000000 in
theorem divMod_zero {N : Nat} (a b : Option Addr) (na ca ma nb cb : Nat) (w : World) (ha : Nt N w a na ca ma) (hb : Nt N w b nb cb 0) :
    Calls Try.prog 51 #[.slice a na ca, .slice b nb cb] w fun e w' => e = .returned (.tuple #[.slice none 0 0, .slice none 0 0, .bool false]) ∧ w = w' := by
  have HA := Lib.hid ha
  have HB := Lib.hid hb
  clear ha hb
  have HZ := Lib.hid nlen_zero
  go_enter Try.func51, Try.ntmps51
  go_wp2_with fail
  refine (trim_any _ _ _ _ _ HA.out).mono ?_
  rintro e w' ⟨rfl, rfl⟩
  go_wp2_with fail
  refine (trim_any _ _ _ _ _ HB.out).mono ?_
  rintro e w' ⟨rfl, rfl⟩
  rw [HZ.out]
  go_wp2_with fail
  go_ret3
  exact ⟨rfl, rfl⟩

set_option maxHeartbeats 2000000 in
theorem divMod_any {N : Nat} (a b : Option Addr) (na ca ma nb cb mb : Nat) (w : World) (hN : N ≤ w.heap.size) (ha : Nt N w a na ca ma) (hb : Nt N w b nb cb mb) (la : na ≤ 1099511627776) (hb0 : 0 < mb) :
    Calls Try.prog 51 #[.slice a na ca, .slice b nb cb] w fun e w' => ∃ r cr r2 cr2, e = .returned (.tuple #[.slice r (nlen (ma / mb)) cr, .slice r2 (nlen (ma % mb)) cr2, .bool true]) ∧ Nt N w' r (nlen (ma / mb)) cr (ma / mb) ∧ Nt N w' r2 (nlen (ma % mb)) cr2 (ma % mb) ∧ Below w.heap.size w w' := by
  have l1 := ha.len
  have hnb : nlen mb ≠ 0 := fun h => by rw [nlen_eq_zero] at h; omega
  have hz : ((nlen mb : Int) == 0) = false := by simp; omega
  have HA := Lib.hid ha
  have HB := Lib.hid hb
  have HTA := Lib.hid ha.trim
  have HTB := Lib.hid hb.trim
  clear ha hb hnb
  rcases Nat.lt_or_ge ma mb with hlt | hge
  · have hcmp : cmpN ma mb < 0 := by rw [cmpN_lt hlt]; decide
    have hcmp2 : (decide (cmpN ma mb < 0)) = true := by simpa using hcmp
    have HQ := Lib.hid (Nat.div_eq_of_lt hlt)
    have HR := Lib.hid (Nat.mod_eq_of_lt hlt)
    have HZ := Lib.hid nlen_zero
    go_enter Try.func51, Try.ntmps51
    go_wp2_with fail
    refine (trim_any _ _ _ _ _ HA.out).mono ?_
    rintro e w' ⟨rfl, rfl⟩
    go_wp2_with fail
    refine (trim_any _ _ _ _ _ HB.out).mono ?_
    rintro e w' ⟨rfl, rfl⟩
    go_wp2_with fail
    refine (cmp_any _ _ _ _ _ _ _ _ _ HTA.out HTB.out).mono ?_
    rintro e w' ⟨rfl, q0, rfl⟩
    go_wp2_with fail
    refine (norm_any (N := N) _ _ _ ma _ (HTA.out.below (bel_drewN _ _ _)) (by omega)).mono ?_
    rintro e w' ⟨r, cr, rfl, hn, hbel⟩
    have HN := Lib.hid hn
    have HBel := Lib.hid hbel
    clear hn hbel
    go_wp2_with fail
    go_ret3
    rw [HQ.out, HR.out, HZ.out]
    exact ⟨none, 0, _, _, rfl, ⟨⟨Nat.le_refl _, fun _ => rfl⟩, Nat.zero_le _, pB 0, fun h => by omega⟩, HN.out, bel_of_drewN HBel.out⟩
  · have hcmp : ¬ cmpN ma mb < 0 := by unfold cmpN; rw [if_neg (by omega)]; split <;> omega
    have hcmp2 : (decide (cmpN ma mb < 0)) = false := by simpa using hcmp
    have hge2 : nlen mb ≤ nlen ma := nlen_mono hge
    by_cases h1 : nlen mb = 1
    · have h1b : ((nlen mb : Int) == 1) = true := by simp; omega
      have hd := dig_lt' mb 0
      have hmb : dig mb 0 = mb := by
        have := lt_pow_nlen mb
        rw [h1, Nat.pow_one] at this
        unfold dig; rw [Nat.pow_zero, Nat.div_one]; exact Nat.mod_eq_of_lt this
      obtain ⟨b1, o1, rfl, _, hcb⟩ := HTB.out.2.2.2 (by omega)
      have hcell := hcb 0 (by omega)
      rw [Nat.add_zero, hmb] at hcell
      rw [hmb] at hd
      have hpos : (0 : Int) < (nlen mb : Int) := by omega
      clear hcb hmb h1
      have hml := Nat.mod_lt ma hb0
      have Hml := Lib.hid hml
      clear hml
      have hml2 : ma % mb < 4294967296 := by have := Hml.out; omega
      generalize hmm : ma % mb = rr at *
      go_enter Try.func51, Try.ntmps51
      go_wp2_with fail
      refine (trim_any _ _ _ _ _ HA.out).mono ?_
      rintro e w' ⟨rfl, rfl⟩
      go_wp2_with fail
      refine (trim_any _ _ _ _ _ HB.out).mono ?_
      rintro e w' ⟨rfl, rfl⟩
      go_wp2_with fail
      refine (cmp_any _ _ _ _ _ _ _ _ _ HTA.out HTB.out).mono ?_
      rintro e w' ⟨rfl, q0, rfl⟩
      go_wp2_with fail
      refine (divLimb_any (N := N) _ _ _ ma mb _ (HTA.out.below (bel_drewN _ _ _)) (by omega) hb0 (by omega)).mono ?_
      rw [hmm]
      rintro e w' ⟨r, cr, rfl, hn, hbel⟩
      have HN := Lib.hid hn
      have HBel := Lib.hid hbel
      clear hn hbel hmm
      go_wp2_with fail
      refine (of_any (N := N) rr _ (by omega)).mono ?_
      rintro e w'' ⟨r2, cr2, rfl, hn, hbel⟩
      have HN2 := Lib.hid hn
      have HBel2 := Lib.hid hbel
      clear hn hbel
      go_wp2_with fail
      go_ret3
      exact ⟨_, _, _, _, rfl, HN.out.below HBel2.out, HN2.out, (bel_of_drewN HBel.out).trans (HBel2.out.mono HBel.out.size)⟩
    · have h1b : ((nlen mb : Int) == 1) = false := by simp; omega
      have h2 : 2 ≤ nlen mb := by
        have : nlen mb ≠ 0 := fun h => by rw [nlen_eq_zero] at h; omega
        omega
      clear h1
      go_enter Try.func51, Try.ntmps51
      go_wp2_with fail
      refine (trim_any _ _ _ _ _ HA.out).mono ?_
      rintro e w' ⟨rfl, rfl⟩
      go_wp2_with fail
      refine (trim_any _ _ _ _ _ HB.out).mono ?_
      rintro e w' ⟨rfl, rfl⟩
      go_wp2_with fail
      refine (cmp_any _ _ _ _ _ _ _ _ _ HTA.out HTB.out).mono ?_
      rintro e w' ⟨rfl, q0, rfl⟩
      go_wp2_with fail
      refine (divLong_any (N := N) _ _ _ ma _ mb _ (by exact hN) (HTA.out.below (bel_drewN _ _ _)) (HTB.out.below (bel_drewN _ _ _)) (by omega) h2 hge2).mono ?_
      rintro e w' ⟨r, cr, r2, cr2, rfl, hn, hn2, hbel⟩
      have HN := Lib.hid hn
      have HN2 := Lib.hid hn2
      have HBel := Lib.hid hbel
      clear hn hn2 hbel
      go_wp2_with fail
      go_ret3
      exact ⟨_, _, _, _, rfl, HN.out, HN2.out, bel_of_drewN HBel.out⟩


def GcdRel (N : Nat) (w : World) (ma mb y : Nat) (s0 s1 : Value) (wr : World) : Prop :=
  ∃ x ra ca rb cb, s0 = .slice ra (nlen x) ca ∧ s1 = .slice rb (nlen y) cb ∧ Nt N wr ra (nlen x) ca x ∧ Nt N wr rb (nlen y) cb y ∧ Nat.gcd x y = Nat.gcd ma mb ∧ nlen x ≤ 1099511627776 ∧ nlen y ≤ 1099511627776 ∧ Below w.heap.size w wr

set_option maxHeartbeats 2000000 in
theorem gcd_any {N : Nat} (a b : Option Addr) (na ca ma nb cb mb : Nat) (w : World) (hN : N ≤ w.heap.size) (ha : Nt N w a na ca ma) (hb : Nt N w b nb cb mb) (la : na ≤ 1099511627776) (lb : nb ≤ 1099511627776) :
    Calls Try.prog 50 #[.slice a na ca, .slice b nb cb] w fun e w' => ∃ r cr, e = .returned (.slice r (nlen (Nat.gcd ma mb)) cr) ∧ Nt N w' r (nlen (Nat.gcd ma mb)) cr (Nat.gcd ma mb) ∧ Below w.heap.size w w' := by
  have l1 := ha.len
  have l2 := hb.len
  have HA := Lib.hid ha
  have HB := Lib.hid hb
  clear ha hb
  go_enter Try.func50, Try.ntmps50
  go_wp2_with fail
  refine (norm_any (N := N) _ _ _ ma _ HA.out (by omega)).mono ?_
  rintro e w1 ⟨r1, c1, rfl, hn1, hb1⟩
  have HN1 := Lib.hid hn1
  have HB1 := Lib.hid hb1
  clear hn1 hb1
  go_wp2_with fail
  refine (norm_any (N := N) _ _ _ mb _ (HB.out.below HB1.out) (by omega)).mono ?_
  rintro e w2 ⟨r2, c2, rfl, hn2, hb2⟩
  have HN2 := Lib.hid hn2
  have HB2 := Lib.hid hb2
  clear hn2 hb2
  go_wp2_with fail
  go_loopg [0, 1] mb (fun y s0 s1 wr => GcdRel N w ma mb y s0 s1 wr)
  case atStart => exact ⟨ma, _, _, _, _, rfl, rfl, HN1.out.below HB2.out, HN2.out, rfl, by omega, by omega, HB1.out.trans (HB2.out.mono HB1.out.size)⟩
  case round =>
    obtain ⟨x, ra, ca', rb, cb', rfl, rfl, hx, hy, hg, hlx, hly, hbel⟩ := hrel
    have HX := Lib.hid hx
    have HY := Lib.hid hy
    have HG := Lib.hid hg
    have HBel := Lib.hid hbel
    clear hx hy hg hbel
    by_cases hy0 : gk = 0
    · have HZ := Lib.hid (show nlen gk = 0 by rw [nlen_eq_zero]; exact hy0)
      have HE : Hid (x = Nat.gcd ma mb) := by have := HG.out; rw [hy0, Nat.gcd_zero_right] at this; exact this
      clear hy0
      have hz : ¬ (0 : Int) < (nlen gk : Int) := by have := HZ.out; omega
      go_wp2_with fail
      go_ret
      rw [← HE.out]
      exact ⟨_, _, rfl, HX.out, HBel.out⟩
    · have hpos : 0 < nlen gk := by
        have : nlen gk ≠ 0 := fun h => hy0 (nlen_eq_zero.1 h)
        omega
      have hgk : 0 < gk := by omega
      clear hy0
      go_wp2_with fail
      refine (divMod_any (N := N) _ _ _ _ x _ _ gk _ (by have := HBel.out.size; omega) HX.out HY.out hlx hgk).mono ?_
      rintro e w3 ⟨r3, c3, r4, c4, rfl, hn3, hn4, hb3⟩
      have HN4 := Lib.hid hn4
      have HB3 := Lib.hid hb3
      clear hn3 hn4 hb3
      go_wp2_with fail
      go_roundg (x % gk)
      case measure => exact Nat.mod_lt _ hgk
      case rel => exact ⟨gk, _, _, _, _, rfl, rfl, HY.out.below HB3.out, HN4.out, by rw [Nat.gcd_comm, ← Nat.gcd_rec, Nat.gcd_comm]; exact HG.out, hly, Nat.le_trans (nlen_mono (Nat.le_of_lt (Nat.mod_lt _ hgk))) hly, HBel.out.trans (HB3.out.mono HBel.out.size)⟩

end Go.Proofs.Ytmljfaplohbjcaa

namespace Go.Proofs.Ytmljfaplohbjcaa
open Go.RowKit

theorem bcell {W w1 : World} (hb : Below W.heap.size W w1) : (∀ b o, b < W.heap.size → w1.cell? ⟨b, o, none⟩ = W.cell? ⟨b, o, none⟩) ∧ (∀ b o, b < W.heap.size → w1.frozen? ⟨b, o, none⟩ = W.frozen? ⟨b, o, none⟩) :=
  ⟨fun b o h => hb.cell (p := ⟨b, o, none⟩) h, fun b o h => hb.frozen (p := ⟨b, o, none⟩) h⟩

theorem Nt.alloc {N : Nat} {w : World} {a : Option Addr} {n cap m : Nat} (h : Nt N w a n cap m) (o : Obj) : Nt N (w.alloc o) a n cap m :=
  h.below ((Below.refl _ _).alloc (Nat.le_refl _) o)

/-- block b is a box of type T -/
def Bx (w : World) (b : Nat) (T : TypeId) : Prop := ∃ cur fz, w.heap[b]? = some (.cells cur T fz)
theorem Bx.new (w : World) (c : Array Value) (T : TypeId) : Bx (w.alloc (.cells c T)) w.heap.size T := ⟨c, (0, 0), heap_alloc_new w _⟩
theorem Bx.lt {w : World} {b : Nat} {T : TypeId} (h : Bx w b T) : b < w.heap.size := by
  obtain ⟨c, f, h⟩ := h; exact (Array.getElem?_eq_some_iff.1 h).1
theorem Bx.below {w w' : World} {b : Nat} {T : TypeId} (h : Bx w b T) (hb : Below w.heap.size w w') : Bx w' b T := by
  have hl := h.lt
  obtain ⟨c, f, h⟩ := h; exact ⟨c, f, (hb.block b hl).trans h⟩
theorem Bx.alloc {w : World} {b : Nat} {T : TypeId} (h : Bx w b T) (o : Obj) : Bx (w.alloc o) b T := h.below ((Below.refl _ _).alloc (Nat.le_refl _) o)
theorem Bx.set {w : World} {b : Nat} {T : TypeId} (h : Bx w b T) (p : Addr) (v : Value) : Bx (w.setCell p v) b T := by
  obtain ⟨c, f, h⟩ := h
  by_cases e : b = p.block
  · subst e
    refine ⟨if p.spot.isSome then c else c.setIfInBounds p.off v, f, ?_⟩
    simp [World.setCell, Array.getElem?_modify, h]
  · exact ⟨c, f, (Below.heap_setCell _ _ _ _ e).trans h⟩
theorem Nt.set {N : Nat} {w : World} {a : Option Addr} {n cap m : Nat} (h : Nt N w a n cap m) {b o : Nat} {T : TypeId} (hN : N ≤ b) (hp : Bx w b T) (hT : T ≠ 90) (v : Value) : Nt N (w.setCell ⟨b, o, none⟩ v) a n cap m := by
  obtain ⟨c, f, hp⟩ := hp
  exact h.setCell (p := ⟨b, o, none⟩) hN hp hT v

set_option maxHeartbeats 1000000 in
theorem make_any {N : Nat} (neg : Bool) (a : Option Addr) (n cap m : Nat) (w : World) (hN : N ≤ w.heap.size) (h : Nt N w a n cap m) (hl : n ≤ 1099511627776) :
    Calls Try.prog 49 #[.bool neg, .slice a n cap] w fun e w' => ∃ r cr, e = .returned (.agg #[.bool (neg && decide (0 < m)), .slice r (nlen m) cr]) ∧ Nt N w' r (nlen m) cr m ∧ Below w.heap.size w w' := by
  have H := Lib.hid h
  clear h
  go_enter Try.func49, Try.ntmps49
  go_wp2_with fail
  refine (norm_any (N := N) _ _ _ m _ (H.out.alloc _) hl).mono ?_
  rintro e w1 ⟨r, cr, rfl, hn, hb⟩
  obtain ⟨hc, hf⟩ := bcell hb
  have hz : w.heap.size < w1.heap.size := by have := hb.size; simp at this; omega
  have HN := Lib.hid hn
  have HB := Lib.hid hb
  clear hn hb
  have HBX := Lib.hid ((Bx.new w #[.bool false, .slice none 0 0] 36).below HB.out)
  have hfin : ∀ v0 v1, Nt N ((w1.setCell ⟨w.heap.size, 0, none⟩ v0).setCell ⟨w.heap.size, 1, none⟩ v1) r (nlen m) cr m ∧ Below w.heap.size w ((w1.setCell ⟨w.heap.size, 0, none⟩ v0).setCell ⟨w.heap.size, 1, none⟩ v1) := fun v0 v1 =>
    ⟨(HN.out.set hN HBX.out (by decide) v0).set hN (HBX.out.set _ _) (by decide) v1, ((((Below.refl _ _).alloc (Nat.le_refl _) _).trans (HB.out.mono (by simp))).setCell (Nat.le_refl _) _).setCell (Nat.le_refl _) _⟩
  have HF := Lib.hid hfin
  clear hfin
  cases neg
  · go_wp2_with fail
    exact bodyPost_ret (v := .agg #[.bool false, .slice r (nlen m) cr]) (by simp [results, Try.results49, go_sem, hc]) rfl ⟨_, _, rfl, (HF.out _ _).1, (HF.out _ _).2⟩
  · have hd : decide (0 < nlen m) = decide (0 < m) := by
      rcases Nat.eq_zero_or_pos m with h | h
      · subst h; simp [nlen_zero]
      · have : nlen m ≠ 0 := fun e => by rw [nlen_eq_zero] at e; omega
        simp [h]; omega
    have HD := Lib.hid hd
    clear hd
    go_wp2_with fail
    exact bodyPost_ret (v := .agg #[.bool (decide (0 < nlen m)), .slice r (nlen m) cr]) (by simp [results, Try.results49, go_sem, hc]) rfl ⟨_, _, by rw [HD.out]; rfl, (HF.out _ _).1, (HF.out _ _).2⟩

/-- the integer with that sign and magnitude -/
def zI (ng : Bool) (m : Nat) : Int := if ng then -(m : Int) else m
theorem zI_abs (ng : Bool) (m : Nat) : (zI ng m).natAbs = m := by unfold zI; cases ng <;> simp
theorem zI_neg (ng : Bool) (m : Nat) : (ng && decide (0 < m)) = decide (zI ng m < 0) := by
  unfold zI; cases ng <;> simp <;> omega
theorem zI_norm (z : Int) : zI (decide (z < 0)) z.natAbs = z := by
  unfold zI
  by_cases h : z < 0 <;> simp [h] <;> omega

/-- what integer.Make returns, said by the integer -/
theorem make_z {N : Nat} (neg : Bool) (a : Option Addr) (n cap m : Nat) (w : World) (hN : N ≤ w.heap.size) (h : Nt N w a n cap m) (hl : n ≤ 1099511627776) (z : Int) (hz : zI neg m = z) :
    Calls Try.prog 49 #[.bool neg, .slice a n cap] w fun e w' => ∃ r cr, e = .returned (.agg #[.bool (decide (z < 0)), .slice r (nlen z.natAbs) cr]) ∧ Nt N w' r (nlen z.natAbs) cr z.natAbs ∧ Below w.heap.size w w' := by
  have h1 := make_any neg a n cap m w hN h hl
  rw [zI_neg, hz] at h1
  have h2 := zI_abs neg m
  rw [hz] at h2
  rw [h2]
  exact h1

theorem Nt.zero (N : Nat) (w : World) : Nt N w none 0 0 0 := ⟨⟨Nat.le_refl _, fun _ => rfl⟩, Nat.zero_le _, pB 0, fun h => by omega⟩

theorem conv_neg (z : Int) (h : -9223372036854775808 ≤ z) (h0 : z < 0) : IntKind.u64.wrap (-IntKind.u64.wrap z) = (z.natAbs : Int) := by
  rw [wrap_u64, wrap_u64]; omega

/-- behind the two stores into a result's box -/
theorem fin2 {N b0 b n m cr : Nat} {w w1 : World} {r : Option Addr} (hN : N ≤ b0) (hb : b0 ≤ b) (hbx : Bx w1 b 36) (hn : Nt N w1 r n cr m) (hbel : Below b0 w w1) (v0 v1 : Value) :
    Nt N ((w1.setCell ⟨b, 0, none⟩ v0).setCell ⟨b, 1, none⟩ v1) r n cr m ∧ Below b0 w ((w1.setCell ⟨b, 0, none⟩ v0).setCell ⟨b, 1, none⟩ v1) :=
  ⟨(hn.set (by omega) hbx (by decide) v0).set (by omega) (hbx.set _ _) (by decide) v1, (hbel.setCell hb _).setCell hb _⟩

set_option maxHeartbeats 1000000 in
theorem iof_any {N : Nat} (z : Int) (w : World) (hN : N ≤ w.heap.size) (h1 : -9223372036854775808 ≤ z) (h2 : z ≤ 9223372036854775807) :
    Calls Try.prog 30 #[.int .i64 z] w fun e w' => ∃ r cr, e = .returned (.agg #[.bool (decide (z < 0)), .slice r (nlen z.natAbs) cr]) ∧ Nt N w' r (nlen z.natAbs) cr z.natAbs ∧ Below w.heap.size w w' := by
  have l2 := nlen_two (m := z.natAbs) (by omega)
  by_cases h0 : z < 0
  · have HZ := Lib.hid (show zI true z.natAbs = z by unfold zI; simp; omega)
    have HC := Lib.hid (conv_neg z h1 h0)
    have hb1 : z.natAbs < 18446744073709551616 := by omega
    go_enter Try.func30, Try.ntmps30
    go_wp2_with fail
    rw [HC.out]
    refine (of_any (N := N) z.natAbs _ hb1).mono ?_
    rintro e wa ⟨rwa, cwa, rfl, hn, hb⟩
    obtain ⟨hcwa, hfwa⟩ := bcell hb
    have hzwa0 : w.heap.size < wa.heap.size := by have := hb.size; (try simp at this); omega
    have HBwa := Lib.hid hb
    have HNwa := Lib.hid hn
    clear hb hn
    go_wp2_with fail
    refine (make_z (N := N) true _ _ _ z.natAbs _ (by omega) HNwa.out (by omega) z HZ.out).mono ?_
    rintro e wb ⟨rwb, cwb, rfl, hn, hb⟩
    obtain ⟨hcwb, hfwb⟩ := bcell hb
    have hzwb0 : w.heap.size < wb.heap.size := by have := hb.size; (try simp at this); omega
    have HBwb := Lib.hid hb
    have HNwb := Lib.hid hn
    clear hb hn
    have HX := Lib.hid (((Bx.new w #[.bool false, .slice none 0 0] 36).below HBwa.out).below HBwb.out)
    have HF := Lib.hid (fun v0 v1 => fin2 hN (Nat.le_refl _) HX.out HNwb.out ((((Below.refl w.heap.size w).alloc (Nat.le_refl _) _).trans (HBwa.out.mono (by simp))).trans (HBwb.out.mono (by omega))) v0 v1)
    go_wp2_with fail
    exact bodyPost_ret (v := .agg #[.bool true, .slice rwb (nlen z.natAbs) cwb]) (by simp [results, Try.results30, go_sem, hcwa, hcwb, hzwa0]) rfl ⟨_, _, by simp [h0], (HF.out _ _).1, (HF.out _ _).2⟩
  · obtain ⟨k, rfl⟩ := Int.eq_ofNat_of_zero_le (show 0 ≤ z by omega)
    rw [Int.natAbs_natCast] at l2 ⊢
    have HZ := Lib.hid (show zI false k = (k : Int) by rfl)
    have hb1 : k < 18446744073709551616 := by omega
    have HE := Lib.hid (Int.natAbs_natCast k)
    go_enter Try.func30, Try.ntmps30
    go_wp2_with fail
    refine (of_any (N := N) k _ hb1).mono ?_
    rintro e wa ⟨rwa, cwa, rfl, hn, hb⟩
    obtain ⟨hcwa, hfwa⟩ := bcell hb
    have hzwa0 : w.heap.size < wa.heap.size := by have := hb.size; (try simp at this); omega
    have HBwa := Lib.hid hb
    have HNwa := Lib.hid hn
    clear hb hn
    go_wp2_with fail
    refine (make_z (N := N) false _ _ _ k _ (by omega) HNwa.out (by omega) (k : Int) HZ.out).mono ?_
    rw [HE.out]
    rintro e wb ⟨rwb, cwb, rfl, hn, hb⟩
    obtain ⟨hcwb, hfwb⟩ := bcell hb
    have hzwb0 : w.heap.size < wb.heap.size := by have := hb.size; (try simp at this); omega
    have HBwb := Lib.hid hb
    have HNwb := Lib.hid hn
    clear hb hn
    have HX := Lib.hid (((Bx.new w #[.bool false, .slice none 0 0] 36).below HBwa.out).below HBwb.out)
    have HF := Lib.hid (fun v0 v1 => fin2 hN (Nat.le_refl _) HX.out HNwb.out ((((Below.refl w.heap.size w).alloc (Nat.le_refl _) _).trans (HBwa.out.mono (by simp))).trans (HBwb.out.mono (by omega))) v0 v1)
    go_wp2_with fail
    exact bodyPost_ret (v := .agg #[.bool (decide ((k : Int) < 0)), .slice rwb (nlen k) cwb]) (by simp [results, Try.results30, go_sem, hcwa, hcwb, hzwa0]) rfl ⟨_, _, rfl, (HF.out _ _).1, (HF.out _ _).2⟩

end Go.Proofs.Ytmljfaplohbjcaa

namespace Go.Proofs.Ytmljfaplohbjcaa
open Go.RowKit

theorem cell_set2 (w : World) (b o1 o2 : Nat) (v1 v2 : Value) (b' o' : Nat) (h : b' ≠ b) : ((w.setCell ⟨b, o1, none⟩ v1).setCell ⟨b, o2, none⟩ v2).cell? ⟨b', o', none⟩ = w.cell? ⟨b', o', none⟩ := by
  rw [World.cell?_of_block (w := w.setCell ⟨b, o1, none⟩ v1) (Below.heap_setCell _ _ _ _ h), World.cell?_of_block (w := w) (Below.heap_setCell _ _ _ _ h)]
theorem cell_set3 (w : World) (b o1 o2 o3 : Nat) (v1 v2 v3 : Value) (b' o' : Nat) (h : b' ≠ b) : (((w.setCell ⟨b, o1, none⟩ v1).setCell ⟨b, o2, none⟩ v2).setCell ⟨b, o3, none⟩ v3).cell? ⟨b', o', none⟩ = w.cell? ⟨b', o', none⟩ := by
  rw [World.cell?_of_block (w := (w.setCell ⟨b, o1, none⟩ v1).setCell ⟨b, o2, none⟩ v2) (Below.heap_setCell _ _ _ _ h), cell_set2 _ _ _ _ _ _ _ _ h]
theorem nlen_bound {N : Nat} {w : World} {a : Option Addr} {n cap m : Nat} (h : Nt N w a n cap m) (L : Nat) (hl : n ≤ L) : nlen m ≤ L := Nat.le_trans h.len hl

theorem zI_mul (sa sb : Bool) (ma mb : Nat) : zI (sa != sb) (ma * mb) = zI sa ma * zI sb mb := by
  unfold zI
  cases sa <;> cases sb <;> simp [Int.neg_mul, Int.mul_neg]

theorem Bx.new' (w : World) (c : Array Value) (T : TypeId) (b : Nat) (h : b = w.heap.size) : Bx (w.alloc (.cells c T)) b T := by subst h; exact Bx.new w c T
theorem bel1 (w : World) (o1 : Obj) : Below w.heap.size w (w.alloc o1) := (Below.refl _ _).alloc (Nat.le_refl _) o1
theorem bel2 (w : World) (o1 o2 : Obj) : Below w.heap.size w ((w.alloc o1).alloc o2) := (bel1 w o1).alloc (by simp) o2
theorem bel3 (w : World) (o1 o2 o3 : Obj) : Below w.heap.size w (((w.alloc o1).alloc o2).alloc o3) := (bel2 w o1 o2).alloc (by simp; omega) o3
theorem bel4 (w : World) (o1 o2 o3 o4 : Obj) : Below w.heap.size w ((((w.alloc o1).alloc o2).alloc o3).alloc o4) := (bel3 w o1 o2 o3).alloc (by simp; omega) o4
theorem Bx.drewB {w w' : World} {b : Nat} {T : TypeId} (h : Bx w b T) (hb : Below w.drew.heap.size w.drew w') : Bx w' b T := h.below (bel_of_drew hb)

set_option maxHeartbeats 4000000 in
theorem imul_any {N : Nat} (sa sb : Bool) (a b : Option Addr) (na ca ma nb cb mb : Nat) (w : World) (hN : N ≤ w.heap.size) (ha : Nt N w a na ca ma) (hb : Nt N w b nb cb mb) (la : na ≤ 274877906944) (lb : nb ≤ 274877906944) (z : Int) (hz : zI sa ma * zI sb mb = z) :
    Calls Try.prog 33 #[.agg #[.bool sa, .slice a na ca], .agg #[.bool sb, .slice b nb cb]] w fun e w' => ∃ r cr, e = .returned (.agg #[.bool (decide (z < 0)), .slice r (nlen z.natAbs) cr]) ∧ Nt N w' r (nlen z.natAbs) cr z.natAbs ∧ Below w.heap.size w w' := by
  have HZ := Lib.hid ((zI_mul sa sb ma mb).trans hz)
  have lm := Nat.le_trans (nlen_mul ma mb) (Nat.add_le_add (nlen_bound ha _ la) (nlen_bound hb _ lb))
  have HA := Lib.hid (((ha.alloc (.cells #[.bool sa, .slice a na ca] 36)).alloc (.cells #[.bool sb, .slice b nb cb] 36)).alloc (.cells #[.bool false, .slice none 0 0] 36))
  have HB := Lib.hid (((hb.alloc (.cells #[.bool sa, .slice a na ca] 36)).alloc (.cells #[.bool sb, .slice b nb cb] 36)).alloc (.cells #[.bool false, .slice none 0 0] 36))
  clear ha hb hz
  go_enter Try.func33, Try.ntmps33
  go_wp2_with fail
  go_region_held3 (fun w' => w'.cell? ⟨w.heap.size, 0, none⟩ = some (.bool sa) ∧ w'.cell? ⟨w.heap.size, 1, none⟩ = some (.slice a na ca) ∧ w'.cell? ⟨w.heap.size + 1, 0, none⟩ = some (.bool sb) ∧ w'.cell? ⟨w.heap.size + 1, 1, none⟩ = some (.slice b nb cb))
    (first | (go_keep; done) | ((try dsimp only); (repeat' apply And.intro) <;> (first | (go_keep; done) | (rw [cell_set2 _ _ _ _ _ _ _ _ (by omega)]; assumption) | (rw [cell_set3 _ _ _ _ _ _ _ _ _ _ (by omega)]; assumption))))
    (first
      | (go_at_call 36; refine (mul_any (N := N) _ _ _ _ ma _ _ mb _ (by simp; omega) (by exact HA.out) (by exact HB.out) (by omega) (by omega)).mono ?_; rintro e wa ⟨ra, ca', rfl, hn, hb⟩; have kwa0 : wa.cell? ⟨w.heap.size, 0, none⟩ = some (.bool sa) := (hb.cell (p := ⟨w.heap.size, 0, none⟩) (by first | (simp; done) | (simp; omega))).trans (by go_simp); have kwa1 : wa.cell? ⟨w.heap.size, 1, none⟩ = some (.slice a na ca) := (hb.cell (p := ⟨w.heap.size, 1, none⟩) (by first | (simp; done) | (simp; omega))).trans (by go_simp); have kwa2 : wa.cell? ⟨w.heap.size + 1, 0, none⟩ = some (.bool sb) := (hb.cell (p := ⟨w.heap.size + 1, 0, none⟩) (by first | (simp; done) | (simp; omega))).trans (by go_simp); have kwa3 : wa.cell? ⟨w.heap.size + 1, 1, none⟩ = some (.slice b nb cb) := (hb.cell (p := ⟨w.heap.size + 1, 1, none⟩) (by first | (simp; done) | (simp; omega))).trans (by go_simp); have hzwa0 : w.heap.size < wa.heap.size := (by have := hb.size; (try simp at this); omega); have hzwa1 : w.heap.size + 1 < wa.heap.size := (by have := hb.size; (try simp at this); omega); have hzwa2 : w.heap.size + 2 < wa.heap.size := (by have := hb.size; (try simp at this); omega); obtain ⟨hcwa, hfwa⟩ := bcell hb; have HBwa := Lib.hid hb; have HNwa := Lib.hid hn; clear hb hn)
      | (go_at_call 49; refine (make_z (N := N) (sa != sb) _ _ _ (ma * mb) _ (by omega) (by exact HNwa.out) (by omega) z HZ.out).mono ?_; rintro e wb ⟨rb, cb', rfl, hn, hb⟩; have kwb0 : wb.cell? ⟨w.heap.size, 0, none⟩ = some (.bool sa) := (hb.cell (p := ⟨w.heap.size, 0, none⟩) (by omega)).trans kwa0; have kwb1 : wb.cell? ⟨w.heap.size, 1, none⟩ = some (.slice a na ca) := (hb.cell (p := ⟨w.heap.size, 1, none⟩) (by omega)).trans kwa1; have kwb2 : wb.cell? ⟨w.heap.size + 1, 0, none⟩ = some (.bool sb) := (hb.cell (p := ⟨w.heap.size + 1, 0, none⟩) (by omega)).trans kwa2; have kwb3 : wb.cell? ⟨w.heap.size + 1, 1, none⟩ = some (.slice b nb cb) := (hb.cell (p := ⟨w.heap.size + 1, 1, none⟩) (by omega)).trans kwa3; have hzwb0 : w.heap.size < wb.heap.size := (by have := hb.size; (try simp at this); omega); have hzwb1 : w.heap.size + 1 < wb.heap.size := (by have := hb.size; (try simp at this); omega); have hzwb2 : w.heap.size + 2 < wb.heap.size := (by have := hb.size; (try simp at this); omega); obtain ⟨hcwb, hfwb⟩ := bcell hb; have HBwb := Lib.hid hb; have HNwb := Lib.hid hn; clear hb hn))
  have HX := Lib.hid (((Bx.new' ((w.alloc (.cells #[.bool sa, .slice a na ca] 36)).alloc (.cells #[.bool sb, .slice b nb cb] 36)) #[.bool false, .slice none 0 0] 36 (w.heap.size + 1 + 1) (by simp)).drewB HBwa.out).below HBwb.out)
  have HF := Lib.hid (fun v0 v1 => fin2 hN (by omega) HX.out HNwb.out (((bel3 w _ _ _).trans ((bel_of_drew HBwa.out).mono (by first | (simp; done) | (simp; omega)))).trans (HBwb.out.mono (by omega))) v0 v1)
  go_wp2_with fail
  exact bodyPost_ret (v := .agg #[.bool (decide (z < 0)), .slice rb (nlen z.natAbs) cb']) (by simp [results, Try.results33, go_sem, hcwa, hcwb, hzwa2]) rfl ⟨_, _, rfl, (HF.out _ _).1, (HF.out _ _).2⟩

theorem cmpN_zero (m : Nat) : cmpN m 0 = if 0 < m then 1 else 0 := by unfold cmpN; rw [if_neg (by omega)]
theorem cmpN_bd (a b : Nat) : -1 ≤ cmpN a b ∧ cmpN a b ≤ 1 := by unfold cmpN; split <;> (try split) <;> omega
theorem sign_f (m : Nat) : cmpN m 0 = (zI false m).sign := by
  rw [cmpN_zero]; unfold zI
  rcases Nat.eq_zero_or_pos m with h | h
  · subst h; rfl
  · rw [if_pos h]; simp only [Bool.false_eq_true, if_false]; exact (Int.sign_eq_one_of_pos (by omega)).symm
theorem sign_t (m : Nat) : -(cmpN m 0) = (zI true m).sign := by
  rw [sign_f]; unfold zI; simp

set_option maxHeartbeats 1000000 in
theorem isign_any {N : Nat} (sa : Bool) (a : Option Addr) (na ca ma : Nat) (w : World) (ha : Nt N w a na ca ma) :
    Calls Try.prog 28 #[.agg #[.bool sa, .slice a na ca]] w fun e w' => e = .returned (.int .i64 (zI sa ma).sign) ∧ Below w.heap.size w w' := by
  have HA := Lib.hid (ha.alloc (.cells #[.bool sa, .slice a na ca] 36))
  clear ha
  have hbd := cmpN_bd ma 0
  cases sa
  · have HE := Lib.hid (sign_f ma)
    go_enter Try.func28, Try.ntmps28
    go_wp2_with fail
    refine (cmp_any (N := N) _ _ _ _ ma _ _ 0 _ HA.out (Nt.zero _ _)).mono ?_
    rintro e w1 ⟨rfl, q, rfl⟩
    go_wp2_with fail
    go_ret
    rw [← HE.out]
    exact ⟨rfl, below_drewN (bel1 _ _) _⟩
  · have HE := Lib.hid (sign_t ma)
    go_enter Try.func28, Try.ntmps28
    go_wp2_with fail
    refine (cmp_any (N := N) _ _ _ _ ma _ _ 0 _ HA.out (Nt.zero _ _)).mono ?_
    rintro e w1 ⟨rfl, q, rfl⟩
    go_wp2_with fail
    go_ret
    rw [← HE.out]
    exact ⟨rfl, below_drewN (bel1 _ _) _⟩

theorem zI_not (sa : Bool) (m : Nat) : zI (!sa) m = -zI sa m := by unfold zI; cases sa <;> simp

end Go.Proofs.Ytmljfaplohbjcaa

namespace Go.Proofs.Ytmljfaplohbjcaa
open Go.RowKit

theorem zI_add (s : Bool) (ma mb : Nat) : zI s (ma + mb) = zI s ma + zI s mb := by unfold zI; cases s <;> simp <;> omega
theorem zI_sub1 (s : Bool) (ma mb : Nat) (h : mb ≤ ma) : zI s (ma - mb) = zI s ma + zI (!s) mb := by unfold zI; cases s <;> simp <;> omega
theorem zI_sub2 (s : Bool) (ma mb : Nat) (h : ma ≤ mb) : zI (!s) (mb - ma) = zI s ma + zI (!s) mb := by unfold zI; cases s <;> simp <;> omega

/-- -1, 0 or 1 -/
def cmpZ (x y : Int) : Int := if x < y then -1 else if y < x then 1 else 0
theorem cmpZ_sl {x y : Int} (h : x.sign < y.sign) : cmpZ x y = -1 := by
  unfold cmpZ; rw [if_pos]
  rcases Int.lt_trichotomy x 0 with h1 | h1 | h1 <;> rcases Int.lt_trichotomy y 0 with h2 | h2 | h2 <;>
    simp_all [Int.sign_eq_one_of_pos, Int.sign_eq_neg_one_of_neg] <;> omega
theorem cmpZ_sg {x y : Int} (h : y.sign < x.sign) : cmpZ x y = 1 := by
  have h2 := cmpZ_sl h
  unfold cmpZ at h2 ⊢
  split at h2
  · rw [if_neg (by omega), if_pos (by assumption)]
  · split at h2 <;> simp at h2
theorem cmpZ_pos {sa sb : Bool} {ma mb : Nat} (h1 : (zI sa ma).sign = 1) (h2 : (zI sb mb).sign = 1) : cmpZ (zI sa ma) (zI sb mb) = cmpN ma mb := by
  have p1 := Int.sign_eq_one_iff_pos.1 h1
  have p2 := Int.sign_eq_one_iff_pos.1 h2
  unfold cmpZ cmpN zI at *
  cases sa <;> cases sb <;> simp at * <;> omega
theorem cmpZ_neg {sa sb : Bool} {ma mb : Nat} (h1 : (zI sa ma).sign = -1) (h2 : (zI sb mb).sign = -1) : cmpZ (zI sa ma) (zI sb mb) = -cmpN ma mb := by
  have p1 := Int.sign_eq_neg_one_iff_neg.1 h1
  have p2 := Int.sign_eq_neg_one_iff_neg.1 h2
  unfold cmpZ cmpN zI at *
  cases sa <;> cases sb <;> simp at * <;> (repeat' split) <;> omega
theorem cmpZ_zero {x y : Int} (h1 : x.sign = 0) (h2 : y.sign = 0) : cmpZ x y = 0 := by
  have p1 := Int.sign_eq_zero_iff_zero.1 h1
  have p2 := Int.sign_eq_zero_iff_zero.1 h2
  subst p1 p2; rfl
theorem sgn3 (x : Int) : x.sign = -1 ∨ x.sign = 0 ∨ x.sign = 1 := by
  rcases Int.lt_trichotomy x 0 with h1 | h1 | h1
  · exact .inl (Int.sign_eq_neg_one_of_neg h1)
  · subst h1; exact .inr (.inl rfl)
  · exact .inr (.inr (Int.sign_eq_one_of_pos h1))

end Go.Proofs.Ytmljfaplohbjcaa

namespace Go.Proofs.Ytmljfaplohbjcaa
open Go.RowKit

set_option maxHeartbeats 4000000 in
theorem icmp_lt {N : Nat} (sa sb : Bool) (a b : Option Addr) (na ca ma nb cb mb : Nat) (w : World) (ha : Nt N w a na ca ma) (hb : Nt N w b nb cb mb) (hs : (zI sa ma).sign < (zI sb mb).sign) :
    Calls Try.prog 32 #[.agg #[.bool sa, .slice a na ca], .agg #[.bool sb, .slice b nb cb]] w fun e w' => e = .returned (.int .i64 (cmpZ (zI sa ma) (zI sb mb))) ∧ Below w.heap.size w w' := by
  have HE := Lib.hid (cmpZ_sl hs)
  have HA := Lib.hid ((ha.alloc (.cells #[.bool sa, .slice a na ca] 36)).alloc (.cells #[.bool sb, .slice b nb cb] 36))
  have HB := Lib.hid ((hb.alloc (.cells #[.bool sa, .slice a na ca] 36)).alloc (.cells #[.bool sb, .slice b nb cb] 36))
  have hbd := cmpN_bd ma mb
  clear ha hb
  have tok1 := trivial
  go_enter Try.func32, Try.ntmps32
  go_wp2_with fail
  go_region_held3 (fun w' => w'.cell? ⟨w.heap.size, 0, none⟩ = some (.bool sa) ∧ w'.cell? ⟨w.heap.size, 1, none⟩ = some (.slice a na ca) ∧ w'.cell? ⟨w.heap.size + 1, 0, none⟩ = some (.bool sb) ∧ w'.cell? ⟨w.heap.size + 1, 1, none⟩ = some (.slice b nb cb))
    (first | (go_keep; done) | ((try dsimp only); (repeat' apply And.intro) <;> (first | (go_keep; done) | (rw [cell_set2 _ _ _ _ _ _ _ _ (by omega)]; assumption) | (rw [cell_set3 _ _ _ _ _ _ _ _ _ _ (by omega)]; assumption))))
    (first
      | (go_at_call 28; have _t := tok1; refine (isign_any (N := N) sa _ _ _ ma _ (by exact HA.out)).mono ?_; rintro e wa ⟨rfl, hb⟩; have kwa0 : wa.cell? ⟨w.heap.size, 0, none⟩ = some (.bool sa) := (hb.cell (p := ⟨w.heap.size, 0, none⟩) (by first | (simp; done) | (simp; omega))).trans (by go_simp); have kwa1 : wa.cell? ⟨w.heap.size, 1, none⟩ = some (.slice a na ca) := (hb.cell (p := ⟨w.heap.size, 1, none⟩) (by first | (simp; done) | (simp; omega))).trans (by go_simp); have kwa2 : wa.cell? ⟨w.heap.size + 1, 0, none⟩ = some (.bool sb) := (hb.cell (p := ⟨w.heap.size + 1, 0, none⟩) (by first | (simp; done) | (simp; omega))).trans (by go_simp); have kwa3 : wa.cell? ⟨w.heap.size + 1, 1, none⟩ = some (.slice b nb cb) := (hb.cell (p := ⟨w.heap.size + 1, 1, none⟩) (by first | (simp; done) | (simp; omega))).trans (by go_simp); have hzwa0 : w.heap.size < wa.heap.size := (by have := hb.size; (try simp at this); omega); have hzwa1 : w.heap.size + 1 < wa.heap.size := (by have := hb.size; (try simp at this); omega); obtain ⟨hcwa, hfwa⟩ := bcell hb; have HBwa := Lib.hid hb; clear hb  _t tok1)
      | (go_at_call 28; refine (isign_any (N := N) sb _ _ _ mb _ (by exact (HB.out.below (bel_of_drew HBwa.out)))).mono ?_; rintro e wb ⟨rfl, hb⟩; have kwb0 : wb.cell? ⟨w.heap.size, 0, none⟩ = some (.bool sa) := (hb.cell (p := ⟨w.heap.size, 0, none⟩) (by omega)).trans kwa0; have kwb1 : wb.cell? ⟨w.heap.size, 1, none⟩ = some (.slice a na ca) := (hb.cell (p := ⟨w.heap.size, 1, none⟩) (by omega)).trans kwa1; have kwb2 : wb.cell? ⟨w.heap.size + 1, 0, none⟩ = some (.bool sb) := (hb.cell (p := ⟨w.heap.size + 1, 0, none⟩) (by omega)).trans kwa2; have kwb3 : wb.cell? ⟨w.heap.size + 1, 1, none⟩ = some (.slice b nb cb) := (hb.cell (p := ⟨w.heap.size + 1, 1, none⟩) (by omega)).trans kwa3; have hzwb0 : w.heap.size < wb.heap.size := (by have := hb.size; (try simp at this); omega); have hzwb1 : w.heap.size + 1 < wb.heap.size := (by have := hb.size; (try simp at this); omega); obtain ⟨hcwb, hfwb⟩ := bcell hb; have HBwb := Lib.hid hb; clear hb ))
  have HBB := Lib.hid (((bel2 w _ _).trans ((bel_of_drew HBwa.out).mono (by first | (simp; done) | (simp; omega)))).trans (HBwb.out.mono (by omega)))
  go_wp2_with fail
  go_ret
  rw [HE.out]
  exact ⟨rfl, HBB.out⟩

set_option maxHeartbeats 4000000 in
theorem icmp_gt {N : Nat} (sa sb : Bool) (a b : Option Addr) (na ca ma nb cb mb : Nat) (w : World) (ha : Nt N w a na ca ma) (hb : Nt N w b nb cb mb) (hs : (zI sb mb).sign < (zI sa ma).sign) :
    Calls Try.prog 32 #[.agg #[.bool sa, .slice a na ca], .agg #[.bool sb, .slice b nb cb]] w fun e w' => e = .returned (.int .i64 (cmpZ (zI sa ma) (zI sb mb))) ∧ Below w.heap.size w w' := by
  have HE := Lib.hid (cmpZ_sg hs)
  have HA := Lib.hid ((ha.alloc (.cells #[.bool sa, .slice a na ca] 36)).alloc (.cells #[.bool sb, .slice b nb cb] 36))
  have HB := Lib.hid ((hb.alloc (.cells #[.bool sa, .slice a na ca] 36)).alloc (.cells #[.bool sb, .slice b nb cb] 36))
  have hbd := cmpN_bd ma mb
  clear ha hb
  have tok1 := trivial
  go_enter Try.func32, Try.ntmps32
  go_wp2_with fail
  go_region_held3 (fun w' => w'.cell? ⟨w.heap.size, 0, none⟩ = some (.bool sa) ∧ w'.cell? ⟨w.heap.size, 1, none⟩ = some (.slice a na ca) ∧ w'.cell? ⟨w.heap.size + 1, 0, none⟩ = some (.bool sb) ∧ w'.cell? ⟨w.heap.size + 1, 1, none⟩ = some (.slice b nb cb))
    (first | (go_keep; done) | ((try dsimp only); (repeat' apply And.intro) <;> (first | (go_keep; done) | (rw [cell_set2 _ _ _ _ _ _ _ _ (by omega)]; assumption) | (rw [cell_set3 _ _ _ _ _ _ _ _ _ _ (by omega)]; assumption))))
    (first
      | (go_at_call 28; have _t := tok1; refine (isign_any (N := N) sa _ _ _ ma _ (by exact HA.out)).mono ?_; rintro e wa ⟨rfl, hb⟩; have kwa0 : wa.cell? ⟨w.heap.size, 0, none⟩ = some (.bool sa) := (hb.cell (p := ⟨w.heap.size, 0, none⟩) (by first | (simp; done) | (simp; omega))).trans (by go_simp); have kwa1 : wa.cell? ⟨w.heap.size, 1, none⟩ = some (.slice a na ca) := (hb.cell (p := ⟨w.heap.size, 1, none⟩) (by first | (simp; done) | (simp; omega))).trans (by go_simp); have kwa2 : wa.cell? ⟨w.heap.size + 1, 0, none⟩ = some (.bool sb) := (hb.cell (p := ⟨w.heap.size + 1, 0, none⟩) (by first | (simp; done) | (simp; omega))).trans (by go_simp); have kwa3 : wa.cell? ⟨w.heap.size + 1, 1, none⟩ = some (.slice b nb cb) := (hb.cell (p := ⟨w.heap.size + 1, 1, none⟩) (by first | (simp; done) | (simp; omega))).trans (by go_simp); have hzwa0 : w.heap.size < wa.heap.size := (by have := hb.size; (try simp at this); omega); have hzwa1 : w.heap.size + 1 < wa.heap.size := (by have := hb.size; (try simp at this); omega); obtain ⟨hcwa, hfwa⟩ := bcell hb; have HBwa := Lib.hid hb; clear hb  _t tok1)
      | (go_at_call 28; refine (isign_any (N := N) sb _ _ _ mb _ (by exact (HB.out.below (bel_of_drew HBwa.out)))).mono ?_; rintro e wb ⟨rfl, hb⟩; have kwb0 : wb.cell? ⟨w.heap.size, 0, none⟩ = some (.bool sa) := (hb.cell (p := ⟨w.heap.size, 0, none⟩) (by omega)).trans kwa0; have kwb1 : wb.cell? ⟨w.heap.size, 1, none⟩ = some (.slice a na ca) := (hb.cell (p := ⟨w.heap.size, 1, none⟩) (by omega)).trans kwa1; have kwb2 : wb.cell? ⟨w.heap.size + 1, 0, none⟩ = some (.bool sb) := (hb.cell (p := ⟨w.heap.size + 1, 0, none⟩) (by omega)).trans kwa2; have kwb3 : wb.cell? ⟨w.heap.size + 1, 1, none⟩ = some (.slice b nb cb) := (hb.cell (p := ⟨w.heap.size + 1, 1, none⟩) (by omega)).trans kwa3; have hzwb0 : w.heap.size < wb.heap.size := (by have := hb.size; (try simp at this); omega); have hzwb1 : w.heap.size + 1 < wb.heap.size := (by have := hb.size; (try simp at this); omega); obtain ⟨hcwb, hfwb⟩ := bcell hb; have HBwb := Lib.hid hb; clear hb ))
  have HBB := Lib.hid (((bel2 w _ _).trans ((bel_of_drew HBwa.out).mono (by first | (simp; done) | (simp; omega)))).trans (HBwb.out.mono (by omega)))
  go_wp2_with fail
  go_ret
  rw [HE.out]
  exact ⟨rfl, HBB.out⟩

set_option maxHeartbeats 4000000 in
theorem icmp_pos {N : Nat} (sa sb : Bool) (a b : Option Addr) (na ca ma nb cb mb : Nat) (w : World) (ha : Nt N w a na ca ma) (hb : Nt N w b nb cb mb) (h1 : (zI sa ma).sign = 1) (h2 : (zI sb mb).sign = 1) :
    Calls Try.prog 32 #[.agg #[.bool sa, .slice a na ca], .agg #[.bool sb, .slice b nb cb]] w fun e w' => e = .returned (.int .i64 (cmpZ (zI sa ma) (zI sb mb))) ∧ Below w.heap.size w w' := by
  have HE := Lib.hid (cmpZ_pos h1 h2)
  have HA := Lib.hid ((ha.alloc (.cells #[.bool sa, .slice a na ca] 36)).alloc (.cells #[.bool sb, .slice b nb cb] 36))
  have HB := Lib.hid ((hb.alloc (.cells #[.bool sa, .slice a na ca] 36)).alloc (.cells #[.bool sb, .slice b nb cb] 36))
  have hbd := cmpN_bd ma mb
  clear ha hb
  have tok1 := trivial
  go_enter Try.func32, Try.ntmps32
  go_wp2_with fail
  go_region_held3 (fun w' => w'.cell? ⟨w.heap.size, 0, none⟩ = some (.bool sa) ∧ w'.cell? ⟨w.heap.size, 1, none⟩ = some (.slice a na ca) ∧ w'.cell? ⟨w.heap.size + 1, 0, none⟩ = some (.bool sb) ∧ w'.cell? ⟨w.heap.size + 1, 1, none⟩ = some (.slice b nb cb))
    (first | (go_keep; done) | ((try dsimp only); (repeat' apply And.intro) <;> (first | (go_keep; done) | (rw [cell_set2 _ _ _ _ _ _ _ _ (by omega)]; assumption) | (rw [cell_set3 _ _ _ _ _ _ _ _ _ _ (by omega)]; assumption))))
    (first
      | (go_at_call 28; have _t := tok1; refine (isign_any (N := N) sa _ _ _ ma _ (by exact HA.out)).mono ?_; rintro e wa ⟨rfl, hb⟩; have kwa0 : wa.cell? ⟨w.heap.size, 0, none⟩ = some (.bool sa) := (hb.cell (p := ⟨w.heap.size, 0, none⟩) (by first | (simp; done) | (simp; omega))).trans (by go_simp); have kwa1 : wa.cell? ⟨w.heap.size, 1, none⟩ = some (.slice a na ca) := (hb.cell (p := ⟨w.heap.size, 1, none⟩) (by first | (simp; done) | (simp; omega))).trans (by go_simp); have kwa2 : wa.cell? ⟨w.heap.size + 1, 0, none⟩ = some (.bool sb) := (hb.cell (p := ⟨w.heap.size + 1, 0, none⟩) (by first | (simp; done) | (simp; omega))).trans (by go_simp); have kwa3 : wa.cell? ⟨w.heap.size + 1, 1, none⟩ = some (.slice b nb cb) := (hb.cell (p := ⟨w.heap.size + 1, 1, none⟩) (by first | (simp; done) | (simp; omega))).trans (by go_simp); have hzwa0 : w.heap.size < wa.heap.size := (by have := hb.size; (try simp at this); omega); have hzwa1 : w.heap.size + 1 < wa.heap.size := (by have := hb.size; (try simp at this); omega); obtain ⟨hcwa, hfwa⟩ := bcell hb; have HBwa := Lib.hid hb; clear hb  _t tok1)
      | (go_at_call 28; refine (isign_any (N := N) sb _ _ _ mb _ (by exact (HB.out.below (bel_of_drew HBwa.out)))).mono ?_; rintro e wb ⟨rfl, hb⟩; have kwb0 : wb.cell? ⟨w.heap.size, 0, none⟩ = some (.bool sa) := (hb.cell (p := ⟨w.heap.size, 0, none⟩) (by omega)).trans kwa0; have kwb1 : wb.cell? ⟨w.heap.size, 1, none⟩ = some (.slice a na ca) := (hb.cell (p := ⟨w.heap.size, 1, none⟩) (by omega)).trans kwa1; have kwb2 : wb.cell? ⟨w.heap.size + 1, 0, none⟩ = some (.bool sb) := (hb.cell (p := ⟨w.heap.size + 1, 0, none⟩) (by omega)).trans kwa2; have kwb3 : wb.cell? ⟨w.heap.size + 1, 1, none⟩ = some (.slice b nb cb) := (hb.cell (p := ⟨w.heap.size + 1, 1, none⟩) (by omega)).trans kwa3; have hzwb0 : w.heap.size < wb.heap.size := (by have := hb.size; (try simp at this); omega); have hzwb1 : w.heap.size + 1 < wb.heap.size := (by have := hb.size; (try simp at this); omega); obtain ⟨hcwb, hfwb⟩ := bcell hb; have HBwb := Lib.hid hb; clear hb ))
  have HBB := Lib.hid (((bel2 w _ _).trans ((bel_of_drew HBwa.out).mono (by first | (simp; done) | (simp; omega)))).trans (HBwb.out.mono (by omega)))
  go_wp2_with fail
  refine (cmp_any (N := N) _ _ _ _ ma _ _ mb _ ((HA.out.below (bel_of_drew HBwa.out)).below HBwb.out) ((HB.out.below (bel_of_drew HBwa.out)).below HBwb.out)).mono ?_
  rintro e wc ⟨rfl, q, rfl⟩
  go_wp2_with fail
  go_ret
  rw [HE.out]
  exact ⟨rfl, below_drewN HBB.out _⟩

set_option maxHeartbeats 4000000 in
theorem icmp_neg {N : Nat} (sa sb : Bool) (a b : Option Addr) (na ca ma nb cb mb : Nat) (w : World) (ha : Nt N w a na ca ma) (hb : Nt N w b nb cb mb) (h1 : (zI sa ma).sign = -1) (h2 : (zI sb mb).sign = -1) :
    Calls Try.prog 32 #[.agg #[.bool sa, .slice a na ca], .agg #[.bool sb, .slice b nb cb]] w fun e w' => e = .returned (.int .i64 (cmpZ (zI sa ma) (zI sb mb))) ∧ Below w.heap.size w w' := by
  have HE := Lib.hid (cmpZ_neg h1 h2)
  have HA := Lib.hid ((ha.alloc (.cells #[.bool sa, .slice a na ca] 36)).alloc (.cells #[.bool sb, .slice b nb cb] 36))
  have HB := Lib.hid ((hb.alloc (.cells #[.bool sa, .slice a na ca] 36)).alloc (.cells #[.bool sb, .slice b nb cb] 36))
  have hbd := cmpN_bd ma mb
  clear ha hb
  have tok1 := trivial
  go_enter Try.func32, Try.ntmps32
  go_wp2_with fail
  go_region_held3 (fun w' => w'.cell? ⟨w.heap.size, 0, none⟩ = some (.bool sa) ∧ w'.cell? ⟨w.heap.size, 1, none⟩ = some (.slice a na ca) ∧ w'.cell? ⟨w.heap.size + 1, 0, none⟩ = some (.bool sb) ∧ w'.cell? ⟨w.heap.size + 1, 1, none⟩ = some (.slice b nb cb))
    (first | (go_keep; done) | ((try dsimp only); (repeat' apply And.intro) <;> (first | (go_keep; done) | (rw [cell_set2 _ _ _ _ _ _ _ _ (by omega)]; assumption) | (rw [cell_set3 _ _ _ _ _ _ _ _ _ _ (by omega)]; assumption))))
    (first
      | (go_at_call 28; have _t := tok1; refine (isign_any (N := N) sa _ _ _ ma _ (by exact HA.out)).mono ?_; rintro e wa ⟨rfl, hb⟩; have kwa0 : wa.cell? ⟨w.heap.size, 0, none⟩ = some (.bool sa) := (hb.cell (p := ⟨w.heap.size, 0, none⟩) (by first | (simp; done) | (simp; omega))).trans (by go_simp); have kwa1 : wa.cell? ⟨w.heap.size, 1, none⟩ = some (.slice a na ca) := (hb.cell (p := ⟨w.heap.size, 1, none⟩) (by first | (simp; done) | (simp; omega))).trans (by go_simp); have kwa2 : wa.cell? ⟨w.heap.size + 1, 0, none⟩ = some (.bool sb) := (hb.cell (p := ⟨w.heap.size + 1, 0, none⟩) (by first | (simp; done) | (simp; omega))).trans (by go_simp); have kwa3 : wa.cell? ⟨w.heap.size + 1, 1, none⟩ = some (.slice b nb cb) := (hb.cell (p := ⟨w.heap.size + 1, 1, none⟩) (by first | (simp; done) | (simp; omega))).trans (by go_simp); have hzwa0 : w.heap.size < wa.heap.size := (by have := hb.size; (try simp at this); omega); have hzwa1 : w.heap.size + 1 < wa.heap.size := (by have := hb.size; (try simp at this); omega); obtain ⟨hcwa, hfwa⟩ := bcell hb; have HBwa := Lib.hid hb; clear hb  _t tok1)
      | (go_at_call 28; refine (isign_any (N := N) sb _ _ _ mb _ (by exact (HB.out.below (bel_of_drew HBwa.out)))).mono ?_; rintro e wb ⟨rfl, hb⟩; have kwb0 : wb.cell? ⟨w.heap.size, 0, none⟩ = some (.bool sa) := (hb.cell (p := ⟨w.heap.size, 0, none⟩) (by omega)).trans kwa0; have kwb1 : wb.cell? ⟨w.heap.size, 1, none⟩ = some (.slice a na ca) := (hb.cell (p := ⟨w.heap.size, 1, none⟩) (by omega)).trans kwa1; have kwb2 : wb.cell? ⟨w.heap.size + 1, 0, none⟩ = some (.bool sb) := (hb.cell (p := ⟨w.heap.size + 1, 0, none⟩) (by omega)).trans kwa2; have kwb3 : wb.cell? ⟨w.heap.size + 1, 1, none⟩ = some (.slice b nb cb) := (hb.cell (p := ⟨w.heap.size + 1, 1, none⟩) (by omega)).trans kwa3; have hzwb0 : w.heap.size < wb.heap.size := (by have := hb.size; (try simp at this); omega); have hzwb1 : w.heap.size + 1 < wb.heap.size := (by have := hb.size; (try simp at this); omega); obtain ⟨hcwb, hfwb⟩ := bcell hb; have HBwb := Lib.hid hb; clear hb ))
  have HBB := Lib.hid (((bel2 w _ _).trans ((bel_of_drew HBwa.out).mono (by first | (simp; done) | (simp; omega)))).trans (HBwb.out.mono (by omega)))
  go_wp2_with fail
  refine (cmp_any (N := N) _ _ _ _ ma _ _ mb _ ((HA.out.below (bel_of_drew HBwa.out)).below HBwb.out) ((HB.out.below (bel_of_drew HBwa.out)).below HBwb.out)).mono ?_
  rintro e wc ⟨rfl, q, rfl⟩
  go_wp2_with fail
  go_ret
  rw [HE.out]
  exact ⟨rfl, below_drewN HBB.out _⟩

set_option maxHeartbeats 4000000 in
theorem icmp_zero {N : Nat} (sa sb : Bool) (a b : Option Addr) (na ca ma nb cb mb : Nat) (w : World) (ha : Nt N w a na ca ma) (hb : Nt N w b nb cb mb) (h1 : (zI sa ma).sign = 0) (h2 : (zI sb mb).sign = 0) :
    Calls Try.prog 32 #[.agg #[.bool sa, .slice a na ca], .agg #[.bool sb, .slice b nb cb]] w fun e w' => e = .returned (.int .i64 (cmpZ (zI sa ma) (zI sb mb))) ∧ Below w.heap.size w w' := by
  have HE := Lib.hid (cmpZ_zero h1 h2)
  have HA := Lib.hid ((ha.alloc (.cells #[.bool sa, .slice a na ca] 36)).alloc (.cells #[.bool sb, .slice b nb cb] 36))
  have HB := Lib.hid ((hb.alloc (.cells #[.bool sa, .slice a na ca] 36)).alloc (.cells #[.bool sb, .slice b nb cb] 36))
  have hbd := cmpN_bd ma mb
  clear ha hb
  have tok1 := trivial
  go_enter Try.func32, Try.ntmps32
  go_wp2_with fail
  go_region_held3 (fun w' => w'.cell? ⟨w.heap.size, 0, none⟩ = some (.bool sa) ∧ w'.cell? ⟨w.heap.size, 1, none⟩ = some (.slice a na ca) ∧ w'.cell? ⟨w.heap.size + 1, 0, none⟩ = some (.bool sb) ∧ w'.cell? ⟨w.heap.size + 1, 1, none⟩ = some (.slice b nb cb))
    (first | (go_keep; done) | ((try dsimp only); (repeat' apply And.intro) <;> (first | (go_keep; done) | (rw [cell_set2 _ _ _ _ _ _ _ _ (by omega)]; assumption) | (rw [cell_set3 _ _ _ _ _ _ _ _ _ _ (by omega)]; assumption))))
    (first
      | (go_at_call 28; have _t := tok1; refine (isign_any (N := N) sa _ _ _ ma _ (by exact HA.out)).mono ?_; rintro e wa ⟨rfl, hb⟩; have kwa0 : wa.cell? ⟨w.heap.size, 0, none⟩ = some (.bool sa) := (hb.cell (p := ⟨w.heap.size, 0, none⟩) (by first | (simp; done) | (simp; omega))).trans (by go_simp); have kwa1 : wa.cell? ⟨w.heap.size, 1, none⟩ = some (.slice a na ca) := (hb.cell (p := ⟨w.heap.size, 1, none⟩) (by first | (simp; done) | (simp; omega))).trans (by go_simp); have kwa2 : wa.cell? ⟨w.heap.size + 1, 0, none⟩ = some (.bool sb) := (hb.cell (p := ⟨w.heap.size + 1, 0, none⟩) (by first | (simp; done) | (simp; omega))).trans (by go_simp); have kwa3 : wa.cell? ⟨w.heap.size + 1, 1, none⟩ = some (.slice b nb cb) := (hb.cell (p := ⟨w.heap.size + 1, 1, none⟩) (by first | (simp; done) | (simp; omega))).trans (by go_simp); have hzwa0 : w.heap.size < wa.heap.size := (by have := hb.size; (try simp at this); omega); have hzwa1 : w.heap.size + 1 < wa.heap.size := (by have := hb.size; (try simp at this); omega); obtain ⟨hcwa, hfwa⟩ := bcell hb; have HBwa := Lib.hid hb; clear hb  _t tok1)
      | (go_at_call 28; refine (isign_any (N := N) sb _ _ _ mb _ (by exact (HB.out.below (bel_of_drew HBwa.out)))).mono ?_; rintro e wb ⟨rfl, hb⟩; have kwb0 : wb.cell? ⟨w.heap.size, 0, none⟩ = some (.bool sa) := (hb.cell (p := ⟨w.heap.size, 0, none⟩) (by omega)).trans kwa0; have kwb1 : wb.cell? ⟨w.heap.size, 1, none⟩ = some (.slice a na ca) := (hb.cell (p := ⟨w.heap.size, 1, none⟩) (by omega)).trans kwa1; have kwb2 : wb.cell? ⟨w.heap.size + 1, 0, none⟩ = some (.bool sb) := (hb.cell (p := ⟨w.heap.size + 1, 0, none⟩) (by omega)).trans kwa2; have kwb3 : wb.cell? ⟨w.heap.size + 1, 1, none⟩ = some (.slice b nb cb) := (hb.cell (p := ⟨w.heap.size + 1, 1, none⟩) (by omega)).trans kwa3; have hzwb0 : w.heap.size < wb.heap.size := (by have := hb.size; (try simp at this); omega); have hzwb1 : w.heap.size + 1 < wb.heap.size := (by have := hb.size; (try simp at this); omega); obtain ⟨hcwb, hfwb⟩ := bcell hb; have HBwb := Lib.hid hb; clear hb ))
  have HBB := Lib.hid (((bel2 w _ _).trans ((bel_of_drew HBwa.out).mono (by first | (simp; done) | (simp; omega)))).trans (HBwb.out.mono (by omega)))
  go_wp2_with fail
  refine (cmp_any (N := N) _ _ _ _ ma _ _ mb _ ((HA.out.below (bel_of_drew HBwa.out)).below HBwb.out) ((HB.out.below (bel_of_drew HBwa.out)).below HBwb.out)).mono ?_
  rintro e wc ⟨rfl, q, rfl⟩
  go_wp2_with fail
  go_ret
  rw [HE.out]
  exact ⟨rfl, below_drewN HBB.out _⟩

theorem icmp_any {N : Nat} (sa sb : Bool) (a b : Option Addr) (na ca ma nb cb mb : Nat) (w : World) (ha : Nt N w a na ca ma) (hb : Nt N w b nb cb mb) :
    Calls Try.prog 32 #[.agg #[.bool sa, .slice a na ca], .agg #[.bool sb, .slice b nb cb]] w fun e w' => e = .returned (.int .i64 (cmpZ (zI sa ma) (zI sb mb))) ∧ Below w.heap.size w w' := by
  rcases sgn3 (zI sa ma) with h1 | h1 | h1 <;> rcases sgn3 (zI sb mb) with h2 | h2 | h2
  · exact icmp_neg sa sb a b na ca ma nb cb mb w ha hb h1 h2
  · exact icmp_lt sa sb a b na ca ma nb cb mb w ha hb (by omega)
  · exact icmp_lt sa sb a b na ca ma nb cb mb w ha hb (by omega)
  · exact icmp_gt sa sb a b na ca ma nb cb mb w ha hb (by omega)
  · exact icmp_zero sa sb a b na ca ma nb cb mb w ha hb h1 h2
  · exact icmp_lt sa sb a b na ca ma nb cb mb w ha hb (by omega)
  · exact icmp_gt sa sb a b na ca ma nb cb mb w ha hb (by omega)
  · exact icmp_gt sa sb a b na ca ma nb cb mb w ha hb (by omega)
  · exact icmp_pos sa sb a b na ca ma nb cb mb w ha hb h1 h2

end Go.Proofs.Ytmljfaplohbjcaa
