/- Contract of nat.divLong: the quotient and the remainder of numbers in normal form, the divisor of at least two limbs and not longer than the dividend. -/
import Derived.Test.YtnillajhhimeiaaDoorNatI
import Derived.Test.YtnillajhhimeiaaDoorNatJ
import Derived.Test.YtnillajhhimeiaaDoorShelfB
import Derived.Lib.ItoaNum
import Derived.Deep.RegionWith
namespace Go.Proofs.YtnillajhhimeiaaDoor
open Go.RowKit

/-- the shift that brings the top bit up -/
theorem lead_zeros (v : Nat) (h0 : v ≠ 0) (h : v < 4294967296) : ∃ s : Nat, s < 32 ∧ (32 - (Lib.bitLen v : Int)) = (s : Int) ∧ 2147483648 ≤ v * 2 ^ s ∧ v * 2 ^ s < 4294967296 := by
  obtain ⟨h1, h2, h3⟩ := Lib.bitLenAux_bounds 64 v (by omega) h0
  have h4 := Lib.bitLen_le v 32 (by omega) (by simpa using h)
  unfold Lib.bitLen at *
  generalize Lib.bitLenAux 64 v = b at *
  refine ⟨32 - b, by omega, by omega, ?_, ?_⟩
  · have := Nat.mul_le_mul_right (2 ^ (32 - b)) h2
    rw [← Nat.pow_add, show b - 1 + (32 - b) = 31 by omega] at this
    exact this
  · have := Nat.mul_lt_mul_of_pos_right h3 (Nat.pow_pos (show 0 < 2 by decide) (n := 32 - b))
    rw [← Nat.pow_add, show b + (32 - b) = 32 by omega] at this
    exact this

/-- the divisor, shifted -/
theorem dsh_lt (b n s : Nat) (hn : nlen b = n + 1) (hs : dig b n * 2 ^ s < 4294967296) : b * 2 ^ s < B ^ (n + 1) := by
  have h1 := lt_pow_nlen b
  rw [hn] at h1
  have h2 := div_top b n
  rw [Nat.div_eq_of_lt h1, Nat.mul_zero, Nat.zero_add] at h2
  have h3 : b < (dig b n + 1) * B ^ n := by rw [← h2, Nat.mul_comm]; exact Nat.lt_mul_div_succ b (pB n)
  have h4 := Nat.mul_lt_mul_of_pos_right h3 (Nat.pow_pos (show 0 < 2 by decide) (n := s))
  refine Nat.lt_of_lt_of_le h4 ?_
  have h5 : (dig b n + 1) * 2 ^ s ≤ B := by
    rcases Nat.lt_or_ge 32 s with h6 | h6
    · have := top_ne b n hn
      have h7 := Nat.mul_le_mul (show 1 ≤ dig b n by omega) (Nat.pow_le_pow_right (show 0 < 2 by decide) (show 33 ≤ s by omega))
      simp at h7
      omega
    · have h8 : B = 2 ^ s * 2 ^ (32 - s) := by rw [← Nat.pow_add, show s + (32 - s) = 32 by omega]; rfl
      rw [h8]
      have h9 : dig b n * 2 ^ s < 2 ^ (32 - s) * 2 ^ s := by rw [Nat.mul_comm (2 ^ (32 - s)), ← h8]; exact hs
      have h10 := Nat.lt_of_mul_lt_mul_right h9
      rw [Nat.mul_comm (2 ^ s)]
      exact Nat.mul_le_mul_right _ h10
  calc (dig b n + 1) * B ^ n * 2 ^ s = (dig b n + 1) * 2 ^ s * B ^ n := by rw [Nat.mul_assoc, Nat.mul_comm (B ^ n), ← Nat.mul_assoc]
    _ ≤ B * B ^ n := Nat.mul_le_mul_right _ h5
    _ = B ^ (n + 1) := by rw [pB_succ, Nat.mul_comm]
theorem dsh_top (b n s : Nat) (hn : nlen b = n + 1) (hs : dig b n * 2 ^ s < 4294967296) (h31 : 2147483648 ≤ dig b n * 2 ^ s) : 2147483648 ≤ dig (b * 2 ^ s) n := by
  have hl := dsh_lt b n s hn hs
  have e : dig (b * 2 ^ s) n = b * 2 ^ s / B ^ n := by
    unfold dig
    exact Nat.mod_eq_of_lt ((Nat.div_lt_iff_lt_mul (pB n)).2 (by rw [Nat.mul_comm B (B ^ n), ← pB_succ]; exact hl))
  rw [e]
  refine Nat.le_trans h31 ((Nat.le_div_iff_mul_le (pB n)).2 ?_)
  have h1 := lt_pow_nlen b
  rw [hn] at h1
  have h2 := div_top b n
  rw [Nat.div_eq_of_lt h1, Nat.mul_zero, Nat.zero_add] at h2
  rw [← h2, Nat.mul_assoc, Nat.mul_comm (2 ^ s), ← Nat.mul_assoc]
  exact Nat.mul_le_mul_right _ (Nat.div_mul_le_self b _)

/-- the rest above place k, and one step -/
theorem rest_part (A D j : Nat) (_hD : 0 < D) : A % (D * B ^ (j + 1)) / B ^ j / D = dig (A / D) j := by
  rw [Nat.div_div_eq_div_mul, Nat.mul_comm (B ^ j), pB_succ, ← Nat.mul_assoc, Nat.mod_mul_right_div_self]
  unfold dig
  rw [Nat.div_div_eq_div_mul]
theorem rest_lt (A D k : Nat) (hD : 0 < D) : A % (D * B ^ k) < D * B ^ k := Nat.mod_lt _ (Nat.mul_pos hD (pB k))
theorem rest_next (A D j : Nat) (hD : 0 < D) : A % (D * B ^ j) = A % (D * B ^ (j + 1)) - dig (A / D) j * D * B ^ j := by
  have h1 := rest_part A D j hD
  have e : A % (D * B ^ j) = A % (D * B ^ (j + 1)) % (D * B ^ j) := by
    rw [pB_succ, ← Nat.mul_assoc]; exact (Nat.mod_mul_right_mod A (D * B ^ j) B).symm
  rw [e, ← h1, Nat.div_div_eq_div_mul, Nat.mul_comm (B ^ j)]
  generalize A % (D * B ^ (j + 1)) = R
  have := Nat.div_add_mod R (D * B ^ j)
  have e2 : R / (D * B ^ j) * D * B ^ j = D * B ^ j * (R / (D * B ^ j)) := by rw [Nat.mul_assoc, Nat.mul_comm]
  omega

/-- the row of the rest behind the subtraction -/
theorem rest_row (R D j n q i : Nat) (hR : R < D * B ^ (j + 1)) (hD : D < B ^ n) (hq : q * D * B ^ j ≤ R) (hqn : q < B) :
    dig (R - q * D * B ^ j) i = if j ≤ i ∧ i < j + (n + 1) then dig (R / B ^ j + B ^ (n + 1) - q * D) (i - j) else dig R i := by
  have hRn : R < B ^ (j + (n + 1)) := by
    refine Nat.lt_of_lt_of_le hR ?_
    rw [show j + (n + 1) = n + (j + 1) by omega, Nat.pow_add B n (j + 1)]
    exact Nat.mul_le_mul_right _ (Nat.le_of_lt hD)
  have hqD := qd_lt q D n hD hqn
  have hqp : q * D ≤ R / B ^ j := (Nat.le_div_iff_mul_le (pB j)).2 hq
  by_cases h1 : i < j
  · rw [if_neg (by omega)]
    have e : R = (R - q * D * B ^ j) + B ^ j * (q * D) := by rw [Nat.mul_comm (B ^ j)]; omega
    conv => rhs; rw [e]
    rw [dig_add_mul _ _ _ _ h1]
  · by_cases h2 : i < j + (n + 1)
    · rw [if_pos ⟨by omega, h2⟩]
      have e1 : R / B ^ j + B ^ (n + 1) - q * D = (R / B ^ j - q * D) + B ^ (n + 1) := by omega
      rw [e1, dig_up _ (n + 1) (i - j) (by omega)]
      have e2 : R / B ^ j - q * D = (R - q * D * B ^ j) / B ^ j := by
        rw [Nat.mul_comm (q * D), Nat.sub_mul_div_of_le]
        rw [Nat.mul_comm]; exact hq
      rw [e2]
      unfold dig
      rw [Nat.div_div_eq_div_mul, ← Nat.pow_add, show j + (i - j) = i by omega]
    · rw [if_neg (by omega), dig_high' R (j + (n + 1)) i hRn (by omega), dig_high' _ (j + (n + 1)) i (Nat.lt_of_le_of_lt (Nat.sub_le _ _) hRn) (by omega)]


theorem first_lt (a b s : Nat) (hs : s < 32) (h1 : 1 ≤ nlen b) (hba : nlen b ≤ nlen a) (hD : b * 2 ^ s < B ^ nlen b) (ht : 2147483648 ≤ dig (b * 2 ^ s) (nlen b - 1)) : a * 2 ^ s < b * 2 ^ s * B ^ (nlen a - nlen b + 1) := by
  have h2 : 2147483648 * B ^ (nlen b - 1) ≤ b * 2 ^ s := by
    have e := div_top (b * 2 ^ s) (nlen b - 1)
    rw [show nlen b - 1 + 1 = nlen b by omega, Nat.div_eq_of_lt hD, Nat.mul_zero, Nat.zero_add] at e
    rw [← e] at ht
    exact Nat.le_trans (Nat.mul_le_mul_right _ ht) (Nat.div_mul_le_self _ _)
  have h3 := Nat.mul_le_mul_right (B ^ (nlen a - nlen b + 1)) h2
  rw [Nat.mul_assoc, ← Nat.pow_add, show nlen b - 1 + (nlen a - nlen b + 1) = nlen a by omega] at h3
  refine Nat.lt_of_lt_of_le ?_ h3
  rw [Nat.mul_comm 2147483648]
  exact Nat.mul_lt_mul_of_lt_of_le (lt_pow_nlen a) (two_le s hs) (by decide)

theorem quot_lt (a b s : Nat) {A D : Nat} (hD : b * 2 ^ s = D) (hA : a * 2 ^ s = A) (hn2 : 2 ≤ nlen b) (hba : nlen b ≤ nlen a) : A / D < B ^ (nlen a - nlen b + 1) := by
  subst hD hA
  rw [Nat.mul_div_mul_right _ _ (Nat.pow_pos (by decide))]
  have h1 := pow_le_of_nlen (m := b) (n := nlen b - 1) (by omega)
  have hb0 : 0 < b := Nat.lt_of_lt_of_le (pB _) h1
  refine (Nat.div_lt_iff_lt_mul hb0).2 (Nat.lt_of_lt_of_le (lt_pow_nlen a) ?_)
  refine Nat.le_trans ?_ (Nat.mul_le_mul_left _ h1)
  rw [← Nat.pow_add]
  exact pB_le (by omega)

theorem bel_of_drew {K : Nat} {w w' : World} (h : Below K w.drew w') : Below K w w' := ⟨h.os, h.tape, h.output, h.size, h.block⟩
theorem bel_of_drewN {K q : Nat} {w w' : World} (h : Below K (w.drewN q) w') : Below K w w' := ⟨h.os, h.tape, h.output, h.size, h.block⟩
theorem row_drewN {w : World} {b t n q : Nat} {f : Nat → Value} (h : w.rowIs b t n f) : (w.drewN q).rowIs b t n f := h
theorem row_below {w w' : World} {b t n : Nat} {f : Nat → Value} (h : w.rowIs b t n f) (hb : Below w.heap.size w w') : w'.rowIs b t n f := h.of_block (hb.block b h.lt)
theorem row_grown {w w' : World} {b t n r : Nat} {f : Nat → Value} (h : w.rowIs b t n f) (hb : w.grownBy w' (some r)) (hne : b ≠ r) : w'.rowIs b t n f := h.of_block (hb.block b h.lt (by simpa using hne))

set_option maxHeartbeats 2000000 in
set_option maxRecDepth 100000 in
theorem divLong_any {N : Nat} (a b : Option Addr) (ca ma cb mb : Nat) (w : World) (_hN : N ≤ w.heap.size) (ha : Nt N w a (nlen ma) ca ma) (hb : Nt N w b (nlen mb) cb mb) (la : nlen ma ≤ 1099511627776) (hn2 : 2 ≤ nlen mb) (hnm : nlen mb ≤ nlen ma) :
    Calls Tryd.prog 85 #[.slice a (nlen ma) ca, .slice b (nlen mb) cb] w fun e w' => ∃ r cr r2 cr2, e = .returned (.tuple #[.slice r (nlen (ma / mb)) cr, .slice r2 (nlen (ma % mb)) cr2]) ∧ Nt N w' r (nlen (ma / mb)) cr (ma / mb) ∧ Nt N w' r2 (nlen (ma % mb)) cr2 (ma % mb) ∧ Below w.heap.size w w' := by
  have htop := top_ne mb (nlen mb - 1) (by omega)
  have dtop := dig_lt' mb (nlen mb - 1)
  obtain ⟨s, hs32, hs, hs1, hs2⟩ := lead_zeros (dig mb (nlen mb - 1)) htop dtop
  have hDlt := dsh_lt mb (nlen mb - 1) s (by omega) hs2
  have hDtop := dsh_top mb (nlen mb - 1) s (by omega) hs2 hs1
  rw [show nlen mb - 1 + 1 = nlen mb by omega] at hDlt
  obtain ⟨b1, o1, rfl, _, hcb⟩ := hb.2.2.2 (by omega)
  have hcell := hcb (nlen mb - 1) (by omega)
  clear hcb
  have z1 : ((nlen mb : Int) - 1).toNat = nlen mb - 1 := by omega
  have HA := Lib.hid ha
  have HB := Lib.hid hb
  have HS := Lib.hid hs
  have HDlt := Lib.hid hDlt
  have HDtop := Lib.hid hDtop
  clear ha hb hs hDlt hDtop hs1 hs2 htop
  have hmk := run_make_row' (P := Tryd.prog) 26 51 (.int .u32 0) 4 Tryd.underNat Tryd.infoU32 rfl .i64 .i64 (nlen ma - nlen mb + 1) (by omega) (by omega)
  have ec : ((nlen ma - nlen mb + 1 : Nat) : Int) = (nlen ma : Int) - (nlen mb : Int) + 1 := by omega
  rw [ec] at hmk
  clear ec
  go_enter Tryd.func85, Tryd.ntmps85
  go_wp2_with fail
  refine (Tryd.bits_LeadingZeros32 _ _ (by omega) (by omega)).mono ?_
  rintro e w' ⟨rfl, hw⟩
  obtain rfl := hw.symm
  rw [Int.toNat_natCast, HS.out]
  go_wp2_with fail
  refine (shl_any _ _ _ _ _ _ HB.out (by omega) hs32).mono ?_
  rintro e w1 ⟨rfl, hr1, hb1⟩
  have HR1 := Lib.hid hr1
  have HB1 := Lib.hid hb1
  have sz1 : w.heap.size < w1.heap.size := hr1.lt
  clear hr1 hb1
  go_wp2_with fail
  refine (shl_any (N := N) _ _ _ _ _ _ (HA.out.below HB1.out) (by omega) hs32).mono ?_
  rintro e w2 ⟨rfl, hr2, hb2⟩
  have HR2 := Lib.hid hr2
  have HB2 := Lib.hid hb2
  have sz2 : w1.heap.size < w2.heap.size := hr2.lt
  have hD0 : 0 < mb * 2 ^ s := Nat.mul_pos (by rcases Nat.eq_zero_or_pos mb with h | h; (· subst h; rw [nlen_zero] at hn2; omega); (· exact h)) (Nat.pow_pos (by decide))
  have HD0 := Lib.hid hD0
  have hstart : ma * 2 ^ s % (mb * 2 ^ s * B ^ (nlen ma - nlen mb + 1)) = ma * 2 ^ s := Nat.mod_eq_of_lt (first_lt ma mb s hs32 (by omega) hnm HDlt.out HDtop.out)
  have HST := Lib.hid hstart
  clear hr2 hb2 hD0 hstart
  generalize hD : mb * 2 ^ s = D at *
  generalize hA : ma * 2 ^ s = A at *
  have HDE := Lib.hid hD
  have HAE := Lib.hid hA
  clear hD hA hcell
  go_wp2_with fail
  go_loopw [11] (fun i wr => ∃ k : Nat, k ≤ nlen ma - nlen mb + 1 ∧ i = .int .i64 ((k : Int) - 1) ∧ wr.rowIs w.heap.size 51 (nlen mb + 1) (fun i => .int .u32 (dig D i)) ∧ wr.rowIs w1.heap.size 51 (nlen ma + 1) (fun i => .int .u32 (dig (A % (D * B ^ k)) i)) ∧ wr.rowIs w2.heap.size 51 (nlen ma - nlen mb + 1) (divRow (A / D) k) ∧ Below w.heap.size w wr) (fun i _ => (intOf i + 1).toNat)
  case atStart =>
    refine ⟨nlen ma - nlen mb + 1, Nat.le_refl _, i64_congr (by omega), (row_below HR1.out HB2.out).alloc _, (HR2.out.alloc _).congr (fun i _ => by rw [HST.out]), (World.rowIs_made _ _ _ _).congr (fun i hi => by simp only [divRow]; rw [if_neg (by omega)]; rfl), ((HB1.out.trans (HB2.out.mono (by omega))).alloc (by omega) _)⟩
  case round =>
    obtain ⟨k, hk, rfl, hr1, hr2, hr3, hbel⟩ := hrel
    have h1 := Lib.hid hr1
    have h2 := Lib.hid hr2
    have h3 := Lib.hid hr3
    have hb := Lib.hid hbel
    clear hr1 hr2 hr3 hbel hmk
    by_cases hk0 : 0 < k
    · have z2 : ((k : Int) - 1).toNat = k - 1 := by omega
      have g1 : (0 : Int) ≤ (k : Int) - 1 := by omega
      have z3 : ((k : Int) - 1 + (nlen mb : Int) + 1).toNat = k + nlen mb := by omega
      have z4 : k + nlen mb - (k - 1) = nlen mb + 1 := by omega
      have e1 : k - 1 + 1 = k := by omega
      have hRlt : A % (D * B ^ k) < D * B ^ (k - 1 + 1) := by rw [e1]; exact rest_lt A D k HD0.out
      have hp1 : A % (D * B ^ k) / B ^ (k - 1) < D * B := by
        refine (Nat.div_lt_iff_lt_mul (pB _)).2 ?_
        rw [Nat.mul_assoc, Nat.mul_comm B, ← pB_succ]; exact hRlt
      have hp2 : A % (D * B ^ k) / B ^ (k - 1) < B ^ (nlen mb + 1) := by
        rw [pB_succ]; exact Nat.lt_trans hp1 (Nat.mul_lt_mul_of_pos_right HDlt.out B_pos)
      have hq : A % (D * B ^ k) / B ^ (k - 1) / D = dig (A / D) (k - 1) := by
        have := rest_part A D (k - 1) HD0.out
        rwa [e1] at this
      have hnx : A % (D * B ^ (k - 1)) = A % (D * B ^ k) - dig (A / D) (k - 1) * D * B ^ (k - 1) := by
        have := rest_next A D (k - 1) HD0.out
        rwa [e1] at this
      have hqD : dig (A / D) (k - 1) * D ≤ A % (D * B ^ k) / B ^ (k - 1) := by rw [← hq]; exact Nat.div_mul_le_self _ _
      have hqD2 : A % (D * B ^ k) / B ^ (k - 1) < (dig (A / D) (k - 1) + 1) * D := by rw [← hq, Nat.mul_comm _ D]; exact Nat.lt_mul_div_succ _ HD0.out
      have hqR : dig (A / D) (k - 1) * D * B ^ (k - 1) ≤ A % (D * B ^ k) := by
        exact Nat.le_trans (Nat.mul_le_mul_right _ hqD) (Nat.div_mul_le_self _ _)
      have hrr : ∀ i, dig (A % (D * B ^ (k - 1))) i = _ := fun i => (congrArg (fun z => dig z i) hnx).trans (rest_row _ D (k - 1) (nlen mb) (dig (A / D) (k - 1)) i hRlt HDlt.out hqR (dig_lt _ _))
      have hpd : ∀ i, dig (A % (D * B ^ k)) (k - 1 + i) = dig (A % (D * B ^ k) / B ^ (k - 1)) i := fun i => by
        unfold dig; rw [Nat.div_div_eq_div_mul, ← Nat.pow_add]
      have hqlt := dig_lt' (A / D) (k - 1)
      generalize hR : A % (D * B ^ k) = R at *
      generalize hP : R / B ^ (k - 1) = p at *
      have Hp1 := Lib.hid hp1
      have Hp2 := Lib.hid hp2
      have Hq := Lib.hid hq
      have HqD := Lib.hid hqD
      have HqD2 := Lib.hid hqD2
      have Hrr := Lib.hid hrr
      have Hpd := Lib.hid hpd
      clear hRlt hp1 hp2 hq hnx hqD hqD2 hqR hrr hpd hR hP
      generalize hqq : dig (A / D) (k - 1) = q at *
      have Hqq := Lib.hid hqq
      clear hqq e1
      go_wp2_with fail
      refine (estimate_any _ _ _ _ _ _ p D wr (fun i hi => ?_) (fun i hi => h1.out.cell (by omega)) HDlt.out HDtop.out Hp1.out (by omega) hn2).mono ?_
      · rw [h2.out.cell (by omega), Hpd.out]
      rintro e w4 ⟨Q, q4, rfl, hQ1, hQ2, hQ3, rfl⟩
      rw [Hq.out] at hQ1 hQ2
      rcases (show Q = q ∨ Q = q + 1 by omega) with rfl | rfl
      · clear hQ1 hQ2
        go_wp2_with fail
        refine (subtract_any _ _ (nlen ma + 1) _ _ _ _ p D Q _ _ (row_drewN h2.out) (fun i hi => by rw [Hpd.out]) (by omega) Hp2.out HDlt.out (fun i hi => (row_drewN h1.out).cell (by omega)) (by omega) hQ3 (by omega) (by omega)).mono ?_
        rintro e w5 ⟨rfl, hr5, hg5⟩
        have hno : decide (p < Q * D) = false := by have := HqD.out; simpa using this
        rw [hno]
        have hq5 := row_grown (row_drewN (q := q4) h3.out) hg5 (by omega)
        have hcq : ∃ v, w5.cell? ⟨w2.heap.size, k - 1, none⟩ = some v := ⟨_, hq5.cell (i := k - 1) (by omega)⟩
        obtain ⟨vq, hcq⟩ := hcq
        have hfq := hq5.frozen (k - 1)
        have H5 := Lib.hid hr5
        have HQ5 := Lib.hid hq5
        have HG5 := Lib.hid hg5
        clear hno hr5 hq5 hg5
        go_wp2_with fail
        go_roundw
        case rel =>
          have hsz5 := HG5.out.size
          have hrow2 : w5.rowIs w1.heap.size 51 (nlen ma + 1) (fun i => .int .u32 (dig (A % (D * B ^ (k - 1))) i)) := H5.out.congr fun i hi => by
            have := Hrr.out i
            rw [this]
            unfold subRow
            split <;> rfl
          refine ⟨k - 1, by omega, i64_congr (by omega), (row_grown (row_drewN h1.out) HG5.out (by omega)).setOther (by show w.heap.size ≠ w2.heap.size; omega) _, hrow2.setOther (by show w1.heap.size ≠ w2.heap.size; omega) _, divRow_step (by rw [show k - 1 + 1 = k by omega]; exact HQ5.out) ?_, ?_⟩
          · rw [Hqq.out]
          · refine Below.setCell (Below.grown (below_drewN hb.out q4) HG5.out ?_ ?_) ?_ _
            · have := hb.out.size; exact this
            · rintro k' hk'; cases hk'; omega
            · show w.heap.size ≤ w2.heap.size; omega
        case measure => simp [intOf]; omega
      · clear hQ1 hQ2
        go_wp2_with fail
        refine (subtract_any _ _ (nlen ma + 1) _ _ _ _ p D (q + 1) _ _ (row_drewN h2.out) (fun i hi => by rw [Hpd.out]) (by omega) Hp2.out HDlt.out (fun i hi => (row_drewN h1.out).cell (by omega)) (by omega) hQ3 (by omega) (by omega)).mono ?_
        rintro e w5 ⟨rfl, hr5, hg5⟩
        have hyes : decide (p < (q + 1) * D) = true := by have := HqD2.out; simpa using this
        rw [hyes]
        have H5 := Lib.hid hr5
        have HG5 := Lib.hid hg5
        clear hyes hr5 hg5
        go_wp2_with fail
        have hqle : (q + 1) * D ≤ p + B ^ (nlen mb + 1) := by
          have := qd_lt (q + 1) D (nlen mb) HDlt.out hQ3
          omega
        have hpD : p + B ^ (nlen mb + 1) - (q + 1) * D + D = p + B ^ (nlen mb + 1) - q * D := by
          rw [Nat.add_mul, Nat.one_mul] at hqle ⊢
          omega
        refine (addBack_any _ _ (nlen ma + 1) _ _ _ _ (p + B ^ (nlen mb + 1) - (q + 1) * D) D _ _ H5.out (fun i hi => by unfold subRow; rw [if_pos (by omega), Nat.add_sub_cancel_left]) (by omega) HDlt.out (fun i hi => (row_grown (row_drewN h1.out) HG5.out (by omega)).cell (by omega)) (by omega) (by omega) (by omega)).mono ?_
        rw [hpD]
        clear hqle hpD
        rintro e w6 ⟨⟨v6, rfl⟩, hr6, hg6⟩
        have hq6 := row_grown (row_grown (row_drewN (q := q4) h3.out) HG5.out (by omega)) hg6 (by omega)
        have hcq : ∃ v, w6.cell? ⟨w2.heap.size, k - 1, none⟩ = some v := ⟨_, hq6.cell (i := k - 1) (by omega)⟩
        obtain ⟨vq, hcq⟩ := hcq
        have hfq := hq6.frozen (k - 1)
        have H6 := Lib.hid hr6
        have HQ6 := Lib.hid hq6
        have HG6 := Lib.hid (grown_trans HG5.out hg6)
        clear hr6 hq6 hg6
        go_wp2_with fail
        go_roundw
        case rel =>
          have hsz6 := HG6.out.size
          have hrow2 : w6.rowIs w1.heap.size 51 (nlen ma + 1) (fun i => .int .u32 (dig (A % (D * B ^ (k - 1))) i)) := H6.out.congr fun i hi => by
            have := Hrr.out i
            rw [this]
            unfold subRow
            split <;> rfl
          refine ⟨k - 1, by omega, i64_congr (by omega), (row_grown (row_drewN h1.out) HG6.out (by omega)).setOther (by show w.heap.size ≠ w2.heap.size; omega) _, hrow2.setOther (by show w1.heap.size ≠ w2.heap.size; omega) _, divRow_step (by rw [show k - 1 + 1 = k by omega]; exact HQ6.out) ?_, ?_⟩
          · rw [Hqq.out]; try omega
          · refine Below.setCell (Below.grown (below_drewN hb.out q4) HG6.out ?_ ?_) ?_ _
            · have := hb.out.size; exact this
            · rintro k' hk'; cases hk'; omega
            · show w.heap.size ≤ w2.heap.size; omega
        case measure => simp [intOf]; omega
    · obtain rfl : k = 0 := by omega
      have hq0 := Nt.of_row (N := N) h3.out (m := A / D) (by unfold maxLen; omega) (quot_lt ma mb s HDE.out HAE.out hn2 hnm) (fun i hi => by simp [divRow])
      have hr0 : Nt N wr (some ⟨w1.heap.size, 0, none⟩) (nlen mb) (nlen ma + 1) (A % D) := by
        have h4 := Nt.of_row (N := N) h2.out (m := A % D) (by unfold maxLen; omega) (Nat.lt_trans (Nat.mod_lt _ HD0.out) (Nat.lt_of_lt_of_le HDlt.out (pB_le (by omega)))) (fun i hi => by simp)
        exact h4.part (by omega) (Nat.lt_trans (Nat.mod_lt _ HD0.out) HDlt.out)
      have HQ0 := Lib.hid hq0
      have HR0 := Lib.hid hr0
      have hqe : A / D = ma / mb := by rw [← HDE.out, ← HAE.out]; exact Nat.mul_div_mul_right _ _ (Nat.pow_pos (by decide))
      have hre : A % D / 2 ^ s = ma % mb := by
        rw [← HDE.out, ← HAE.out, Nat.mul_mod_mul_right]; exact Nat.mul_div_cancel _ (Nat.pow_pos (by decide))
      rw [hqe] at HQ0
      have HRE := Lib.hid hre
      clear hq0 hr0 hqe hre
      go_wp2_with fail
      go_region_with (first | (go_at_call 64; refine (trim_any (N := N) _ _ _ _ _ (by first | exact HQ0.out | exact (HNS.out))).mono ?_; rintro e w' ⟨rfl, rfl⟩) | (go_at_call 96; refine (shr_any (N := N) _ _ _ (A % D) s _ (by exact HR0.out) (by omega) hs32).mono ?_; rw [HRE.out]; rintro e w7 ⟨r7, rfl, hn7, hb7⟩; have HNS := Lib.hid hn7; have HBS := Lib.hid hb7; clear hn7 hb7))
      all_goals
        go_wp2_with fail
        go_ret2
        exact ⟨_, _, _, _, rfl, (HQ0.out.trim).below (bel_of_drew HBS.out), HNS.out.trim, hb.out.trans ((bel_of_drew HBS.out).mono hb.out.size)⟩

end Go.Proofs.YtnillajhhimeiaaDoor
