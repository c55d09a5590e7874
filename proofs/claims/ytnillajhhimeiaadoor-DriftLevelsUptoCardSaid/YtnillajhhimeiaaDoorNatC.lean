/- Contracts of nat.Cmp and nat.Sub: for all numbers of at most 2^40 limbs. -/
import Derived.Test.YtnillajhhimeiaaDoorNatB
namespace Go.Proofs.YtnillajhhimeiaaDoor
open Go.RowKit

theorem bel_drewN (B : Nat) (w : World) (m : Nat) : Below B w (w.drewN m) := below_drewN (Below.refl _ _) m

set_option maxHeartbeats 1000000 in
theorem cmp_any {N : Nat} (a b : Option Addr) (na ca ma nb cb mb : Nat) (w : World) (ha : Nt N w a na ca ma) (hb : Nt N w b nb cb mb) :
    Calls Tryd.prog 30 #[.slice a na ca, .slice b nb cb] w fun e w' => e = .returned (.int .i64 (cmpN ma mb)) ∧ ∃ q, w' = w.drewN q := by
  have l1 := ha.len
  have l2 := hb.len
  have l3 : na ≤ 9223372036854775807 := by have := ha.1.1; have := ha.2.1; unfold maxLen at this; omega
  have l4 : nb ≤ 9223372036854775807 := by have := hb.1.1; have := hb.2.1; unfold maxLen at this; omega
  have HA := Lib.hid ha
  have HB := Lib.hid hb
  have HTA := Lib.hid ha.trim
  have HTB := Lib.hid hb.trim
  clear ha hb
  rcases Nat.lt_trichotomy (nlen ma) (nlen mb) with hlt | heq | hgt
  · have HF := Lib.hid (cmpN_lt (lt_of_nlen hlt))
    go_enter Tryd.func30, Tryd.ntmps30
    go_wp2_with fail
    refine (trim_any _ _ _ _ _ HA.out).mono ?_
    rintro e w' ⟨rfl, rfl⟩
    go_wp2_with fail
    refine (trim_any _ _ _ _ _ HB.out).mono ?_
    rintro e w' ⟨rfl, rfl⟩
    go_wp2_with fail
    go_ret
    rw [HF.out]
    exact ⟨rfl, 0, rfl⟩
  · have HE := Lib.hid heq
    have hge1 : ¬ nlen ma < nlen mb := by omega
    have hge2 : ¬ nlen mb < nlen ma := by omega
    clear heq
    go_enter Tryd.func30, Tryd.ntmps30
    go_wp2_with fail
    refine (trim_any _ _ _ _ _ HA.out).mono ?_
    rintro e w' ⟨rfl, rfl⟩
    go_wp2_with fail
    refine (trim_any _ _ _ _ _ HB.out).mono ?_
    rintro e w' ⟨rfl, rfl⟩
    go_wp2_with fail
    go_loopw [5] (fun i wr => ∃ k q : Nat, k ≤ nlen ma ∧ i = .int .i64 ((k : Int) - 1) ∧ Hid (∀ j, k ≤ j → j < nlen ma → dig ma j = dig mb j) ∧ wr = w.drewN q) (fun i _ => (intOf i + 1).toNat)
    case atStart => exact ⟨nlen ma, 0, Nat.le_refl _, rfl, (fun j h1 h2 => by omega), rfl⟩
    case round =>
      obtain ⟨k, q, hk, rfl, hsame, rfl⟩ := hrel
      by_cases hk0 : 0 < k
      · obtain ⟨b1, o1, rfl, _, hc1⟩ := HTA.out.2.2.2 (by omega)
        obtain ⟨b2, o2, rfl, _, hc2⟩ := HTB.out.2.2.2 (by have := HE.out; omega)
        have hcell1 := hc1 (k - 1) (by omega)
        have hcell2 := hc2 (k - 1) (by have := HE.out; omega)
        have hz1 : ((k : Int) - 1).toNat = k - 1 := by omega
        have hz2 : k ≤ nlen mb := by have := HE.out; omega
        clear hc1 hc2
        have d1 := dig_lt' ma (k - 1)
        have d2 := dig_lt' mb (k - 1)
        have hh1 : (0 : Int) ≤ (k : Int) - 1 := by omega
        rcases Nat.lt_trichotomy (dig ma (k - 1)) (dig mb (k - 1)) with hd | hd | hd
        · have HF := Lib.hid (cmpN_lt (lt_of_high (lt_pow_nlen ma) (by rw [HE.out]; exact lt_pow_nlen mb) (by omega : k - 1 < nlen ma) (fun i h1 h2 => hsame.out i (by omega) h2) hd))
          go_wp2_with fail
          go_quiet (fail)
          go_wp2_with fail
          go_ret
          rw [HF.out]
          exact ⟨rfl, _, by simp only [World.drewN_drewN]; rfl⟩
        · have hn1 : ¬ dig ma (k - 1) < dig mb (k - 1) := by omega
          have hn2 : ¬ dig mb (k - 1) < dig ma (k - 1) := by omega
          have HD := Lib.hid hd
          clear hd
          go_wp2_with fail
          go_quiet (fail)
          go_wp2_with fail
          go_quiet (fail)
          go_wp2_with fail
          go_roundw
          case rel => exact ⟨k - 1, _, by omega, i64_congr (by omega), (fun j h1 h2 => by by_cases e : j = k - 1; (· subst e; exact HD.out); (· exact hsame.out j (by omega) h2)), rfl⟩
          case measure => simp [intOf]; omega
        · have hn1 : ¬ dig ma (k - 1) < dig mb (k - 1) := by omega
          have HF := Lib.hid (cmpN_gt (lt_of_high (by rw [HE.out]; exact lt_pow_nlen mb) (lt_pow_nlen ma) (by omega : k - 1 < nlen ma) (fun i h1 h2 => (hsame.out i (by omega) h2).symm) hd))
          go_wp2_with fail
          go_quiet (fail)
          go_wp2_with fail
          go_quiet (fail)
          go_wp2_with fail
          go_ret
          rw [HF.out]
          exact ⟨rfl, _, by simp only [World.drewN_drewN]; rfl⟩
      · obtain rfl : k = 0 := by omega
        have HF := Lib.hid (cmpN_eq (ext_digs ma mb (nlen ma) (lt_pow_nlen ma) (by rw [HE.out]; exact lt_pow_nlen mb) (fun i hi => hsame.out i (by omega) hi)))
        go_wp2_with fail
        go_ret
        rw [HF.out]
        exact ⟨rfl, _, rfl⟩
  · have HF := Lib.hid (cmpN_gt (lt_of_nlen hgt))
    have hge1 : ¬ nlen ma < nlen mb := by omega
    go_enter Tryd.func30, Tryd.ntmps30
    go_wp2_with fail
    refine (trim_any _ _ _ _ _ HA.out).mono ?_
    rintro e w' ⟨rfl, rfl⟩
    go_wp2_with fail
    refine (trim_any _ _ _ _ _ HB.out).mono ?_
    rintro e w' ⟨rfl, rfl⟩
    go_wp2_with fail
    go_ret
    rw [HF.out]
    exact ⟨rfl, 0, rfl⟩


theorem bor_int (a b k : Nat) : (bor a b (k + 1) : Int) = if (dig a k : Int) < (dig b k : Int) + (bor a b k : Int) then 1 else 0 := by
  rw [bor_succ]
  by_cases h : dig a k < dig b k + bor a b k
  · rw [if_pos h, if_pos (by omega)]; rfl
  · rw [if_neg h, if_neg (by omega)]; rfl

theorem wrap_u64 (x : Int) : IntKind.u64.wrap x = x % 18446744073709551616 := by
  simp [IntKind.wrap, IntKind.signed, IntKind.bits]
theorem sub_bor (a b k : Nat) : IntKind.u64.wrap (IntKind.u64.wrap ((dig a k : Int) - (bor a b k : Int)) - (dig b k : Int)) / 9223372036854775808 = (bor a b (k + 1) : Int) := by
  rw [bor_int, wrap_u64, wrap_u64]
  have h1 := dig_lt' a k
  have h2 := dig_lt' b k
  have h3 := bor_le a b k
  split <;> omega
theorem sub_dig (a b k : Nat) (hle : b ≤ a) : IntKind.u64.wrap (IntKind.u64.wrap ((dig a k : Int) - (bor a b k : Int)) - (dig b k : Int)) % 4294967296 = (dig (a - b) k : Int) := by
  rw [wrap_u64, wrap_u64]
  have h1 := dig_lt' a k
  have h2 := dig_lt' b k
  have h3 := bor_le a b k
  have h4 := dig_lt' (a - b) k
  have h5 := dig_sub a b k hle
  simp only [B] at h5
  split at h5 <;> omega
theorem sub_bor0 (a b k : Nat) (h0 : dig b k = 0) : IntKind.u64.wrap ((dig a k : Int) - (bor a b k : Int)) / 9223372036854775808 = (bor a b (k + 1) : Int) := by
  rw [bor_int, wrap_u64]
  have h1 := dig_lt' a k
  have h3 := bor_le a b k
  split <;> omega
theorem sub_dig0 (a b k : Nat) (hle : b ≤ a) (h0 : dig b k = 0) : IntKind.u64.wrap ((dig a k : Int) - (bor a b k : Int)) % 4294967296 = (dig (a - b) k : Int) := by
  rw [wrap_u64]
  have h1 := dig_lt' a k
  have h3 := bor_le a b k
  have h4 := dig_lt' (a - b) k
  have h5 := dig_sub a b k hle
  simp only [B] at h5
  split at h5 <;> omega

set_option maxHeartbeats 1000000 in
theorem sub_any {N : Nat} (a b : Option Addr) (na ca ma nb cb mb : Nat) (w : World) (_hN : N ≤ w.heap.size) (ha : Nt N w a na ca ma) (hb : Nt N w b nb cb mb) (la : na ≤ 1099511627776) (hle : mb ≤ ma) :
    Calls Tryd.prog 58 #[.slice a na ca, .slice b nb cb] w fun e w' => ∃ r cr, e = .returned (.tuple #[.slice r (nlen (ma - mb)) cr, .bool true]) ∧ Nt N w' r (nlen (ma - mb)) cr (ma - mb) ∧ Below w.heap.size w w' := by
  have l1 := ha.len
  have l2 : nlen mb ≤ nlen ma := nlen_mono hle
  have HA := Lib.hid ha
  have HB := Lib.hid hb
  have HTA := Lib.hid ha.trim
  have HTB := Lib.hid hb.trim
  have HL := Lib.hid hle
  have hcmp : ¬ cmpN ma mb < 0 := by unfold cmpN; rw [if_neg (by omega)]; split <;> omega
  have hcmp2 : (decide (cmpN ma mb < 0)) = false := by simpa using hcmp
  clear ha hb hle
  have hmk := run_make_row' (P := Tryd.prog) 26 51 (.int .u32 0) 4 Tryd.underNat Tryd.infoU32 rfl .i64 .i64 (nlen ma) (by omega) (by omega)
  go_enter Tryd.func58, Tryd.ntmps58
  go_wp2_with fail
  refine (trim_any _ _ _ _ _ HA.out).mono ?_
  rintro e w' ⟨rfl, rfl⟩
  go_wp2_with fail
  refine (trim_any _ _ _ _ _ HB.out).mono ?_
  rintro e w' ⟨rfl, rfl⟩
  go_wp2_with fail
  refine (cmp_any _ _ _ _ _ _ _ _ _ HTA.out HTB.out).mono ?_
  rintro e w' ⟨rfl, q0, rfl⟩
  go_wp2_with fail
  go_loopw [7, 23] (fun c i wr => ∃ k : Nat, k ≤ nlen ma ∧ i = .int .i64 k ∧ c = .int .u64 (bor ma mb k) ∧ wr.rowIs w.heap.size 51 (nlen ma) (sumRow (ma - mb) k) ∧ Below w.heap.size w wr) (fun _ i _ => nlen ma - (intOf i).toNat)
  case atStart => exact ⟨0, Nat.zero_le _, rfl, by rw [bor_zero]; rfl, (World.rowIs_made _ _ _ _).congr (fun i hi => by simp [sumRow]), (bel_drewN _ _ _).alloc (Nat.le_refl _) _⟩
  case round =>
    obtain ⟨k, hk, rfl, rfl, hrow, hbel⟩ := hrel
    have d3 := bor_le ma mb k
    by_cases hkn : k < nlen ma
    · obtain ⟨b1, o1, rfl, _, hc1⟩ := HTA.out.2.2.2 (by omega)
      have hcell1 := (hbel.cell (p := ⟨b1, o1 + k, none⟩) (World.block_lt_of_cell? w _ (hc1 k hkn))).trans (hc1 k hkn)
      clear hc1
      have hput := hrow.cell (i := k) hkn
      have hfz := hrow.frozen k
      have d1 := dig_lt' ma k
      have d2 := dig_lt' mb k
      have HS := Lib.hid (dig_sub ma mb k HL.out)
      have HI := Lib.hid (bor_int ma mb k)
      have d4 := dig_lt' (ma - mb) k
      by_cases hkb : k < nlen mb
      · obtain ⟨b2, o2, rfl, _, hc2⟩ := HTB.out.2.2.2 (by omega)
        have hcell2 := (hbel.cell (p := ⟨b2, o2 + k, none⟩) (World.block_lt_of_cell? w _ (hc2 k hkb))).trans (hc2 k hkb)
        clear hc2
        have HR := Lib.hid hrow
        have HBel := Lib.hid hbel
        clear hrow hbel hmk
        go_wp2
        go_roundw
        case rel => exact ⟨k + 1, by omega, by go_num, u64_congr (sub_bor ma mb k), sumRow_step HR.out (sub_dig ma mb k HL.out), HBel.out.setCell (Nat.le_refl _) _⟩
        case measure => simp [intOf]; omega
      · have H0 := Lib.hid (dig_high' mb (nlen mb) k (lt_pow_nlen mb) (by omega))
        have HR := Lib.hid hrow
        have HBel := Lib.hid hbel
        clear hrow hbel hmk
        go_wp2
        go_roundw
        case rel => exact ⟨k + 1, by omega, by go_num, u64_congr (sub_bor0 ma mb k H0.out), sumRow_step HR.out (sub_dig0 ma mb k HL.out H0.out), HBel.out.setCell (Nat.le_refl _) _⟩
        case measure => simp [intOf]; omega
    · obtain rfl : k = nlen ma := by omega
      have HL2 := Lib.hid (Nat.lt_of_le_of_lt (Nat.sub_le ma mb) (lt_pow_nlen ma))
      have HR := Lib.hid hrow
      have HBel := Lib.hid hbel
      clear hrow hbel hmk
      go_wp2_with fail
      have hnt := Nt.of_row (N := N) HR.out (by unfold maxLen; omega) HL2.out (fun i hi => by simp [sumRow, hi])
      refine (trim_any _ _ _ _ _ hnt).mono ?_
      rintro e w' ⟨rfl, rfl⟩
      have HN := Lib.hid hnt.trim
      clear hnt
      go_wp2_with fail
      go_ret2
      exact ⟨_, _, rfl, HN.out, HBel.out⟩

set_option maxHeartbeats 1000000 in
theorem sub_no {N : Nat} (a b : Option Addr) (na ca ma nb cb mb : Nat) (w : World) (ha : Nt N w a na ca ma) (hb : Nt N w b nb cb mb) (hlt : ma < mb) :
    Calls Tryd.prog 58 #[.slice a na ca, .slice b nb cb] w fun e w' => e = .returned (.tuple #[.slice none 0 0, .bool false]) ∧ Below w.heap.size w w' := by
  have HA := Lib.hid ha
  have HB := Lib.hid hb
  have HTA := Lib.hid ha.trim
  have HTB := Lib.hid hb.trim
  have hcmp : cmpN ma mb < 0 := by rw [cmpN_lt hlt]; decide
  have hcmp2 : (decide (cmpN ma mb < 0)) = true := by simpa using hcmp
  clear ha hb hlt
  go_enter Tryd.func58, Tryd.ntmps58
  go_wp2_with fail
  refine (trim_any _ _ _ _ _ HA.out).mono ?_
  rintro e w' ⟨rfl, rfl⟩
  go_wp2_with fail
  refine (trim_any _ _ _ _ _ HB.out).mono ?_
  rintro e w' ⟨rfl, rfl⟩
  go_wp2_with fail
  refine (cmp_any _ _ _ _ _ _ _ _ _ HTA.out HTB.out).mono ?_
  rintro e w' ⟨rfl, q0, rfl⟩
  go_wp2_with fail
  go_ret2
  exact ⟨rfl, bel_drewN _ _ _⟩

end Go.Proofs.YtnillajhhimeiaaDoor
