/- Contracts of the reference's Cmp, Add, Sub, Mul and Of of natural numbers: for all numbers of at most 2^40 limbs. -/
import Derived.Test.YtnidfpilmmhniaaRefA
import Derived.Test.YtnidfpilmmhniaaNatD
namespace Go.Proofs.Ytnidfpilmmhniaa
open Go.RowKit

set_option maxHeartbeats 1000000 in
theorem xof_any {N : Nat} (n : Nat) (w : World) (h : n < 18446744073709551616) :
    Calls Try.prog 146 #[.int .u64 n] w fun e w' => ∃ r cr, e = .returned (.slice r (nlen n) cr) ∧ Nt N w' r (nlen n) cr n ∧ Below w.heap.size w w' := by
  have hr := World.rowIs_alloc w #[Value.int IntKind.u32 ((n : Int) % 4294967296), Value.int IntKind.u32 ((n : Int) / 4294967296)] 122 (fun i => .int .u32 (dig n i)) (fun i hi => by
    have hi2 : i < 2 := hi
    have e0 := dig0 n
    have e1 := dig1 n
    rcases (show i = 0 ∨ i = 1 by omega) with rfl | rfl
    · simp [e0]
    · simp [e1]; omega)
  have hnt := Nt.of_row (N := N) hr (show 2 ≤ maxLen by unfold maxLen; decide) (two_limbs n h) (fun i hi => rfl)
  have H := Lib.hid hnt
  clear hr hnt
  go_enter Try.func146, Try.ntmps146
  go_wp2_with fail
  refine (xnorm_any _ _ _ _ _ H.out (by show 2 ≤ 4398046511104; omega)).mono ?_
  rintro e w' ⟨r, cr, rfl, hn, hb⟩
  have HN := Lib.hid hn
  have HB := Lib.hid hb
  clear hn hb
  go_wp2_with fail
  go_ret
  exact ⟨_, _, rfl, HN.out, ((Below.refl _ _).alloc (Nat.le_refl _) _).trans (HB.out.mono (by simp))⟩

set_option maxHeartbeats 1000000 in
theorem xcmp_any {N : Nat} (a b : Option Addr) (na ca ma nb cb mb : Nat) (w : World) (ha : Nt N w a na ca ma) (hb : Nt N w b nb cb mb) :
    Calls Try.prog 147 #[.slice a na ca, .slice b nb cb] w fun e w' => e = .returned (.int .i64 (cmpN ma mb)) ∧ w = w' := by
  have l3 : na ≤ 9223372036854775807 := by have := ha.1.1; have := ha.2.1; unfold maxLen at this; omega
  have l4 : nb ≤ 9223372036854775807 := by have := hb.1.1; have := hb.2.1; unfold maxLen at this; omega
  have HA := Lib.hid ha
  have HB := Lib.hid hb
  rcases Nat.lt_or_ge na nb with hab | hab
  · have HLA := Lib.hid (Nat.lt_of_lt_of_le ha.2.2.1 (pB_le (show na ≤ nb by omega)))
    have HLB := Lib.hid (Nat.lt_of_lt_of_le hb.2.2.1 (pB_le (show nb ≤ nb by omega)))
    clear ha hb
    go_enter Try.func147, Try.ntmps147
    go_wp2_with fail
    go_loop [5] (fun i => ∃ k : Nat, k ≤ nb ∧ i = .int .i64 ((k : Int) - 1) ∧ Hid (∀ j, k ≤ j → j < nb → dig ma j = dig mb j)) (fun i => (intOf i + 1).toNat)
    case atStart => exact ⟨nb, Nat.le_refl _, rfl, (fun j h1 h2 => by omega)⟩
    case round =>
      obtain ⟨k, hk, rfl, hsame⟩ := hrel
      by_cases hk0 : 0 < k
      · have d1 := dig_lt' ma (k - 1)
        have d2 := dig_lt' mb (k - 1)
        have hh1 : (0 : Int) ≤ (k : Int) - 1 := by omega
        rcases Nat.lt_trichotomy (dig ma (k - 1)) (dig mb (k - 1)) with hd | hd | hd
        · have HF := Lib.hid (cmpN_lt (lt_of_high HLA.out HLB.out (by omega : k - 1 < nb) (fun i h1 h2 => hsame.out i (by omega) h2) hd))
          go_wp2_with fail
          refine (limb_any (N := N) _ _ _ ma _ (k - 1) _ HA.out (by omega)).mono ?_
          rintro e w' ⟨rfl, rfl⟩
          go_wp2_with fail
          refine (limb_any (N := N) _ _ _ mb _ (k - 1) _ HB.out (by omega)).mono ?_
          rintro e w' ⟨rfl, rfl⟩
          go_wp2_with fail
          go_ret
          rw [HF.out]
          exact ⟨rfl, rfl⟩
        · have hn1 : ¬ dig ma (k - 1) < dig mb (k - 1) := by omega
          have hn2 : ¬ dig mb (k - 1) < dig ma (k - 1) := by omega
          have HD := Lib.hid hd
          clear hd
          go_wp2_with fail
          refine (limb_any (N := N) _ _ _ ma _ (k - 1) _ HA.out (by omega)).mono ?_
          rintro e w' ⟨rfl, rfl⟩
          go_wp2_with fail
          refine (limb_any (N := N) _ _ _ mb _ (k - 1) _ HB.out (by omega)).mono ?_
          rintro e w' ⟨rfl, rfl⟩
          go_wp2_with fail
          go_round
          case rel => exact ⟨k - 1, by omega, i64_congr (by omega), (fun j h1 h2 => by by_cases e : j = k - 1; (· subst e; exact HD.out); (· exact hsame.out j (by omega) h2))⟩
          case measure => simp [intOf]; omega
        · have hn1 : ¬ dig ma (k - 1) < dig mb (k - 1) := by omega
          have HF := Lib.hid (cmpN_gt (lt_of_high HLB.out HLA.out (by omega : k - 1 < nb) (fun i h1 h2 => (hsame.out i (by omega) h2).symm) hd))
          go_wp2_with fail
          refine (limb_any (N := N) _ _ _ ma _ (k - 1) _ HA.out (by omega)).mono ?_
          rintro e w' ⟨rfl, rfl⟩
          go_wp2_with fail
          refine (limb_any (N := N) _ _ _ mb _ (k - 1) _ HB.out (by omega)).mono ?_
          rintro e w' ⟨rfl, rfl⟩
          go_wp2_with fail
          go_ret
          rw [HF.out]
          exact ⟨rfl, rfl⟩
      · obtain rfl : k = 0 := by omega
        have HF := Lib.hid (cmpN_eq (ext_digs ma mb nb HLA.out HLB.out (fun i hi => hsame.out i (by omega) hi)))
        go_wp2_with fail
        go_ret
        rw [HF.out]
        exact ⟨rfl, rfl⟩
  · have HLA := Lib.hid (Nat.lt_of_lt_of_le ha.2.2.1 (pB_le (show na ≤ na by omega)))
    have HLB := Lib.hid (Nat.lt_of_lt_of_le hb.2.2.1 (pB_le (show nb ≤ na by omega)))
    clear ha hb
    go_enter Try.func147, Try.ntmps147
    go_wp2_with fail
    go_loop [5] (fun i => ∃ k : Nat, k ≤ na ∧ i = .int .i64 ((k : Int) - 1) ∧ Hid (∀ j, k ≤ j → j < na → dig ma j = dig mb j)) (fun i => (intOf i + 1).toNat)
    case atStart => exact ⟨na, Nat.le_refl _, rfl, (fun j h1 h2 => by omega)⟩
    case round =>
      obtain ⟨k, hk, rfl, hsame⟩ := hrel
      by_cases hk0 : 0 < k
      · have d1 := dig_lt' ma (k - 1)
        have d2 := dig_lt' mb (k - 1)
        have hh1 : (0 : Int) ≤ (k : Int) - 1 := by omega
        rcases Nat.lt_trichotomy (dig ma (k - 1)) (dig mb (k - 1)) with hd | hd | hd
        · have HF := Lib.hid (cmpN_lt (lt_of_high HLA.out HLB.out (by omega : k - 1 < na) (fun i h1 h2 => hsame.out i (by omega) h2) hd))
          go_wp2_with fail
          refine (limb_any (N := N) _ _ _ ma _ (k - 1) _ HA.out (by omega)).mono ?_
          rintro e w' ⟨rfl, rfl⟩
          go_wp2_with fail
          refine (limb_any (N := N) _ _ _ mb _ (k - 1) _ HB.out (by omega)).mono ?_
          rintro e w' ⟨rfl, rfl⟩
          go_wp2_with fail
          go_ret
          rw [HF.out]
          exact ⟨rfl, rfl⟩
        · have hn1 : ¬ dig ma (k - 1) < dig mb (k - 1) := by omega
          have hn2 : ¬ dig mb (k - 1) < dig ma (k - 1) := by omega
          have HD := Lib.hid hd
          clear hd
          go_wp2_with fail
          refine (limb_any (N := N) _ _ _ ma _ (k - 1) _ HA.out (by omega)).mono ?_
          rintro e w' ⟨rfl, rfl⟩
          go_wp2_with fail
          refine (limb_any (N := N) _ _ _ mb _ (k - 1) _ HB.out (by omega)).mono ?_
          rintro e w' ⟨rfl, rfl⟩
          go_wp2_with fail
          go_round
          case rel => exact ⟨k - 1, by omega, i64_congr (by omega), (fun j h1 h2 => by by_cases e : j = k - 1; (· subst e; exact HD.out); (· exact hsame.out j (by omega) h2))⟩
          case measure => simp [intOf]; omega
        · have hn1 : ¬ dig ma (k - 1) < dig mb (k - 1) := by omega
          have HF := Lib.hid (cmpN_gt (lt_of_high HLB.out HLA.out (by omega : k - 1 < na) (fun i h1 h2 => (hsame.out i (by omega) h2).symm) hd))
          go_wp2_with fail
          refine (limb_any (N := N) _ _ _ ma _ (k - 1) _ HA.out (by omega)).mono ?_
          rintro e w' ⟨rfl, rfl⟩
          go_wp2_with fail
          refine (limb_any (N := N) _ _ _ mb _ (k - 1) _ HB.out (by omega)).mono ?_
          rintro e w' ⟨rfl, rfl⟩
          go_wp2_with fail
          go_ret
          rw [HF.out]
          exact ⟨rfl, rfl⟩
      · obtain rfl : k = 0 := by omega
        have HF := Lib.hid (cmpN_eq (ext_digs ma mb na HLA.out HLB.out (fun i hi => hsame.out i (by omega) hi)))
        go_wp2_with fail
        go_ret
        rw [HF.out]
        exact ⟨rfl, rfl⟩

theorem car_intx (a b k : Nat) : ((dig a k : Int) + (dig b k : Int) + (car a b k : Int)) / 4294967296 = (car a b (k + 1) : Int) := by
  have h := car_succ a b k; simp only [B] at h; omega
theorem dig_intx (a b k : Nat) : ((dig a k : Int) + (dig b k : Int) + (car a b k : Int)) % 4294967296 = (dig (a + b) k : Int) := by
  have h := dig_add a b k; simp only [B] at h; omega

set_option maxHeartbeats 1000000 in
theorem xadd_any {N : Nat} (a b : Option Addr) (na ca ma nb cb mb : Nat) (w : World) (_hN : N ≤ w.heap.size) (ha : Nt N w a na ca ma) (hb : Nt N w b nb cb mb) (la : na ≤ 1099511627776) (lb : nb ≤ 1099511627776) :
    Calls Try.prog 162 #[.slice a na ca, .slice b nb cb] w fun e w' => ∃ r cr, e = .returned (.slice r (nlen (ma + mb)) cr) ∧ Nt N w' r (nlen (ma + mb)) cr (ma + mb) ∧ Below w.heap.size w w' := by
  have HA := Lib.hid ha
  have HB := Lib.hid hb
  rcases Nat.lt_or_ge na nb with hab | hab
  · have hL : ma + mb < B ^ (nb + 1) := by
      have h1 := Nat.lt_of_lt_of_le ha.2.2.1 (pB_le (show na ≤ nb by omega))
      have h2 := Nat.lt_of_lt_of_le hb.2.2.1 (pB_le (show nb ≤ nb by omega))
      have h3 : B ^ nb * 2 ≤ B ^ nb * B := Nat.mul_le_mul_left _ (by decide)
      rw [pB_succ]; omega
    have HL := Lib.hid hL
    clear ha hb hL
    have hmk := run_make_row' (P := Try.prog) 25 122 (.int .u32 0) 4 Try.underNat Try.infoU32 rfl .i64 .i64 (nb + 1) (by omega) (by omega)
    have ec : ((nb + 1 : Nat) : Int) = (nb : Int) + 1 := by omega
    rw [ec] at hmk
    clear ec
    go_enter Try.func162, Try.ntmps162
    go_wp2_with fail
    go_loopw [6, 7] (fun c i wr => ∃ k : Nat, k ≤ nb + 1 ∧ i = .int .i64 k ∧ c = .int .u64 (car ma mb k) ∧ wr.rowIs w.heap.size 122 (nb + 1) (sumRow (ma + mb) k) ∧ Below w.heap.size w wr) (fun _ i _ => nb + 1 - (intOf i).toNat)
    case atStart => exact ⟨0, Nat.zero_le _, rfl, by rw [car_zero]; rfl, (World.rowIs_made _ _ _ _).congr (fun i hi => by simp [sumRow]), (Below.refl _ _).alloc (Nat.le_refl _) _⟩
    case round =>
      clear hmk
      obtain ⟨k, hk, rfl, rfl, hrow, hbel⟩ := hrel
      have d3 := car_le ma mb k
      by_cases hkn : k < nb + 1
      · have hput := hrow.cell (i := k) (by omega)
        have hfz := hrow.frozen k
        have d1 := dig_lt' ma k
        have d2 := dig_lt' mb k
        have HR := Lib.hid hrow
        have HBel := Lib.hid hbel
        have hs := hbel.size
        clear hrow hbel
        go_wp2_with fail
        refine (limb_any (N := N) _ _ _ ma _ k _ (HA.out.below HBel.out) rfl).mono ?_
        rintro e w' ⟨rfl, rfl⟩
        go_wp2_with fail
        refine (limb_any (N := N) _ _ _ mb _ k _ (HB.out.below HBel.out) rfl).mono ?_
        rintro e w' ⟨rfl, rfl⟩
        go_wp2_with fail
        go_roundw
        case rel => exact ⟨k + 1, by omega, by go_num, u64_congr (car_intx ma mb k), sumRow_step HR.out (dig_intx ma mb k), HBel.out.setCell (Nat.le_refl _) _⟩
        case measure => simp [intOf]; omega
      · obtain rfl : k = nb + 1 := by omega
        have HBel := Lib.hid hbel
        have hnt := Nt.of_row (N := N) hrow (by unfold maxLen; omega) HL.out (fun i hi => by simp [sumRow, hi])
        have HN := Lib.hid hnt
        clear hrow hbel hnt
        go_wp2_with fail
        refine (xnorm_any (N := N) _ _ _ _ _ HN.out (by omega)).mono ?_
        rintro e w' ⟨r, cr, rfl, hn, hb⟩
        have HN2 := Lib.hid hn
        have HB2 := Lib.hid hb
        clear hn hb
        go_wp2_with fail
        go_ret
        exact ⟨_, _, rfl, HN2.out, HBel.out.trans (HB2.out.mono HBel.out.size)⟩
  · have hL : ma + mb < B ^ (na + 1) := by
      have h1 := Nat.lt_of_lt_of_le ha.2.2.1 (pB_le (show na ≤ na by omega))
      have h2 := Nat.lt_of_lt_of_le hb.2.2.1 (pB_le (show nb ≤ na by omega))
      have h3 : B ^ na * 2 ≤ B ^ na * B := Nat.mul_le_mul_left _ (by decide)
      rw [pB_succ]; omega
    have HL := Lib.hid hL
    clear ha hb hL
    have hmk := run_make_row' (P := Try.prog) 25 122 (.int .u32 0) 4 Try.underNat Try.infoU32 rfl .i64 .i64 (na + 1) (by omega) (by omega)
    have ec : ((na + 1 : Nat) : Int) = (na : Int) + 1 := by omega
    rw [ec] at hmk
    clear ec
    go_enter Try.func162, Try.ntmps162
    go_wp2_with fail
    go_loopw [6, 7] (fun c i wr => ∃ k : Nat, k ≤ na + 1 ∧ i = .int .i64 k ∧ c = .int .u64 (car ma mb k) ∧ wr.rowIs w.heap.size 122 (na + 1) (sumRow (ma + mb) k) ∧ Below w.heap.size w wr) (fun _ i _ => na + 1 - (intOf i).toNat)
    case atStart => exact ⟨0, Nat.zero_le _, rfl, by rw [car_zero]; rfl, (World.rowIs_made _ _ _ _).congr (fun i hi => by simp [sumRow]), (Below.refl _ _).alloc (Nat.le_refl _) _⟩
    case round =>
      clear hmk
      obtain ⟨k, hk, rfl, rfl, hrow, hbel⟩ := hrel
      have d3 := car_le ma mb k
      by_cases hkn : k < na + 1
      · have hput := hrow.cell (i := k) (by omega)
        have hfz := hrow.frozen k
        have d1 := dig_lt' ma k
        have d2 := dig_lt' mb k
        have HR := Lib.hid hrow
        have HBel := Lib.hid hbel
        have hs := hbel.size
        clear hrow hbel
        go_wp2_with fail
        refine (limb_any (N := N) _ _ _ ma _ k _ (HA.out.below HBel.out) rfl).mono ?_
        rintro e w' ⟨rfl, rfl⟩
        go_wp2_with fail
        refine (limb_any (N := N) _ _ _ mb _ k _ (HB.out.below HBel.out) rfl).mono ?_
        rintro e w' ⟨rfl, rfl⟩
        go_wp2_with fail
        go_roundw
        case rel => exact ⟨k + 1, by omega, by go_num, u64_congr (car_intx ma mb k), sumRow_step HR.out (dig_intx ma mb k), HBel.out.setCell (Nat.le_refl _) _⟩
        case measure => simp [intOf]; omega
      · obtain rfl : k = na + 1 := by omega
        have HBel := Lib.hid hbel
        have hnt := Nt.of_row (N := N) hrow (by unfold maxLen; omega) HL.out (fun i hi => by simp [sumRow, hi])
        have HN := Lib.hid hnt
        clear hrow hbel hnt
        go_wp2_with fail
        refine (xnorm_any (N := N) _ _ _ _ _ HN.out (by omega)).mono ?_
        rintro e w' ⟨r, cr, rfl, hn, hb⟩
        have HN2 := Lib.hid hn
        have HB2 := Lib.hid hb
        clear hn hb
        go_wp2_with fail
        go_ret
        exact ⟨_, _, rfl, HN2.out, HBel.out.trans (HB2.out.mono HBel.out.size)⟩

theorem subx_dig (a b k : Nat) (hle : b ≤ a) (h : dig a k < dig b k + bor a b k) : (dig a k : Int) + 4294967296 - ((dig b k : Int) + (bor a b k : Int)) = (dig (a - b) k : Int) := by
  have h4 := dig_lt' (a - b) k
  have h5 := dig_sub a b k hle
  rw [if_pos h] at h5
  simp only [B] at h5
  omega
theorem subx_dig0 (a b k : Nat) (hle : b ≤ a) (h : ¬ dig a k < dig b k + bor a b k) : (dig a k : Int) - ((dig b k : Int) + (bor a b k : Int)) = (dig (a - b) k : Int) := by
  have h4 := dig_lt' (a - b) k
  have h5 := dig_sub a b k hle
  rw [if_neg h] at h5
  omega

set_option maxHeartbeats 1000000 in
theorem xsub_fr {N : Nat} (a b : Option Addr) (na ca ma nb cb mb : Nat) (w : World) (_hN : N ≤ w.heap.size) (ha : Nt N w a na ca ma) (hb : Nt N w b nb cb mb) (la : na ≤ 1099511627776) (hle : mb ≤ ma) :
    Calls Try.prog 163 #[.slice a na ca, .slice b nb cb] w fun e w' => ∃ r cr, e = .returned (.tuple #[.slice r (nlen (ma - mb)) cr, .bool true]) ∧ Nt N w' r (nlen (ma - mb)) cr (ma - mb) ∧ Below w.heap.size w w' ∧ Fr w.heap.size r := by
  have HA := Lib.hid ha
  have HB := Lib.hid hb
  have HLE := Lib.hid hle
  have HL := Lib.hid (show ma - mb < B ^ na from Nat.lt_of_le_of_lt (Nat.sub_le ma mb) ha.2.2.1)
  have hcmp : ¬ cmpN ma mb < 0 := by unfold cmpN; rw [if_neg (by omega)]; split <;> omega
  have hcmp2 : (decide (cmpN ma mb < 0)) = false := by simpa using hcmp
  clear ha hb hle
  have hmk := run_make_row' (P := Try.prog) 25 122 (.int .u32 0) 4 Try.underNat Try.infoU32 rfl .i64 .i64 na (by omega) (by omega)
  go_enter Try.func163, Try.ntmps163
  go_wp2_with fail
  refine (xcmp_any _ _ _ _ _ _ _ _ _ HA.out HB.out).mono ?_
  rintro e w' ⟨rfl, rfl⟩
  go_wp2_with fail
  go_loopw [7, 8, 9, 10] (fun c i _ _ wr => ∃ k : Nat, k ≤ na ∧ i = .int .i64 k ∧ c = .int .u64 (bor ma mb k) ∧ wr.rowIs w.heap.size 122 na (sumRow (ma - mb) k) ∧ Below w.heap.size w wr) (fun _ i _ _ _ => na - (intOf i).toNat)
  case atStart => exact ⟨0, Nat.zero_le _, rfl, by rw [bor_zero]; rfl, (World.rowIs_made _ _ _ _).congr (fun i hi => by simp [sumRow]), (Below.refl _ _).alloc (Nat.le_refl _) _⟩
  case round =>
    clear hmk
    obtain ⟨k, hk, rfl, rfl, hrow, hbel⟩ := hrel
    have d3 := bor_le ma mb k
    by_cases hkn : k < na
    · have hput := hrow.cell (i := k) (by omega)
      have hfz := hrow.frozen k
      have d1 := dig_lt' ma k
      have d2 := dig_lt' mb k
      have HR := Lib.hid hrow
      have HBel := Lib.hid hbel
      have HBS := Lib.hid (bor_succ ma mb k)
      clear hrow hbel
      by_cases hlt : dig ma k < dig mb k + bor ma mb k
      · have hlt2 : (dig ma k : Int) < (dig mb k : Int) + (bor ma mb k : Int) := by omega
        go_wp2_with fail
        refine (limb_any (N := N) _ _ _ ma _ k _ (HA.out.below HBel.out) rfl).mono ?_
        rintro e w' ⟨rfl, rfl⟩
        go_wp2_with fail
        refine (limb_any (N := N) _ _ _ mb _ k _ (HB.out.below HBel.out) rfl).mono ?_
        rintro e w' ⟨rfl, rfl⟩
        go_wp2_with fail
        go_roundw
        case rel => exact ⟨k + 1, by omega, by go_num, u64_congr (by rw [HBS.out, if_pos hlt]; rfl), sumRow_step HR.out (subx_dig ma mb k HLE.out hlt), HBel.out.setCell (Nat.le_refl _) _⟩
        case measure => simp [intOf]; omega
      · have hlt2 : ¬ (dig ma k : Int) < (dig mb k : Int) + (bor ma mb k : Int) := by omega
        go_wp2_with fail
        refine (limb_any (N := N) _ _ _ ma _ k _ (HA.out.below HBel.out) rfl).mono ?_
        rintro e w' ⟨rfl, rfl⟩
        go_wp2_with fail
        refine (limb_any (N := N) _ _ _ mb _ k _ (HB.out.below HBel.out) rfl).mono ?_
        rintro e w' ⟨rfl, rfl⟩
        go_wp2_with fail
        go_roundw
        case rel => exact ⟨k + 1, by omega, by go_num, u64_congr (by rw [HBS.out, if_neg hlt]; rfl), sumRow_step HR.out (subx_dig0 ma mb k HLE.out hlt), HBel.out.setCell (Nat.le_refl _) _⟩
        case measure => simp [intOf]; omega
    · obtain rfl : k = na := by omega
      have HBel := Lib.hid hbel
      have hnt := Nt.of_row (N := N) hrow (by unfold maxLen; omega) HL.out (fun i hi => by simp [sumRow, hi])
      have HN := Lib.hid hnt
      clear hrow hbel hnt
      go_wp2_with fail
      refine (xnorm_fr (N := N) _ _ _ _ _ HN.out (by omega)).mono ?_
      rintro e w' ⟨r, cr, rfl, hn, hb, hfr⟩
      have HN2 := Lib.hid hn
      have HB2 := Lib.hid hb
      have HF2 := Lib.hid (hfr.mono HBel.out.size)
      clear hn hb hfr
      go_wp2_with fail
      go_ret2
      exact ⟨_, _, rfl, HN2.out, HBel.out.trans (HB2.out.mono HBel.out.size), HF2.out⟩

theorem xsub_any {N : Nat} (a b : Option Addr) (na ca ma nb cb mb : Nat) (w : World) (hN : N ≤ w.heap.size) (ha : Nt N w a na ca ma) (hb : Nt N w b nb cb mb) (la : na ≤ 1099511627776) (hle : mb ≤ ma) :
    Calls Try.prog 163 #[.slice a na ca, .slice b nb cb] w fun e w' => ∃ r cr, e = .returned (.tuple #[.slice r (nlen (ma - mb)) cr, .bool true]) ∧ Nt N w' r (nlen (ma - mb)) cr (ma - mb) ∧ Below w.heap.size w w' :=
  (xsub_fr a b na ca ma nb cb mb w hN ha hb la hle).mono fun _ _ ⟨r, cr, e, hn, hb, _⟩ => ⟨r, cr, e, hn, hb⟩

set_option maxHeartbeats 1000000 in
theorem xsub_no {N : Nat} (a b : Option Addr) (na ca ma nb cb mb : Nat) (w : World) (ha : Nt N w a na ca ma) (hb : Nt N w b nb cb mb) (hlt : ma < mb) :
    Calls Try.prog 163 #[.slice a na ca, .slice b nb cb] w fun e w' => e = .returned (.tuple #[.slice none 0 0, .bool false]) ∧ w = w' := by
  have HA := Lib.hid ha
  have HB := Lib.hid hb
  have hcmp : cmpN ma mb < 0 := by rw [cmpN_lt hlt]; decide
  have hcmp2 : (decide (cmpN ma mb < 0)) = true := by simpa using hcmp
  clear ha hb hlt
  go_enter Try.func163, Try.ntmps163
  go_wp2_with fail
  refine (xcmp_any _ _ _ _ _ _ _ _ _ HA.out HB.out).mono ?_
  rintro e w' ⟨rfl, rfl⟩
  go_wp2_with fail
  go_ret2
  exact ⟨rfl, rfl⟩

end Go.Proofs.Ytnidfpilmmhniaa
