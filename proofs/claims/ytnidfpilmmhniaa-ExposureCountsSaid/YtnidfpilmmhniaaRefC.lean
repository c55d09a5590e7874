/- Contracts of the reference's Mul, short and Bits of natural numbers: for all numbers of at most 2^40 limbs. -/
import Derived.Test.YtnidfpilmmhniaaRefB
import Derived.Test.YtnidfpilmmhniaaNatG
namespace Go.Proofs.Ytnidfpilmmhniaa
open Go.RowKit

theorem mca_intx (a b i j : Nat) : ((dig (prj a b i 0) (i + j) : Int) + (dig a i : Int) * (dig b j : Int) + (mca a b i j : Int)) / 4294967296 = (mca a b i (j + 1) : Int) := by
  rw [← mca_int]; congr 1; omega
theorem mdg_intx (a b i j : Nat) : ((dig (prj a b i 0) (i + j) : Int) + (dig a i : Int) * (dig b j : Int) + (mca a b i j : Int)) % 4294967296 = (mst a b i j % B : Nat) := by
  rw [← mdg_int]; congr 1; omega
theorem wrap_u64_id (x : Int) (h0 : 0 ≤ x) (h1 : x < 18446744073709551616) : IntKind.u64.wrap x = x := by rw [wrap_u64]; omega

set_option maxHeartbeats 1000000 in
theorem xmul_any {N : Nat} (a b : Option Addr) (na ca ma nb cb mb : Nat) (w : World) (_hN : N ≤ w.heap.size) (ha : Nt N w a na ca ma) (hb : Nt N w b nb cb mb) (la : na ≤ 1099511627776) (lb : nb ≤ 1099511627776) :
    Calls Try.prog 110 #[.slice a na ca, .slice b nb cb] w fun e w' => ∃ r cr, e = .returned (.slice r (nlen (ma * mb)) cr) ∧ Nt N w' r (nlen (ma * mb)) cr (ma * mb) ∧ Below w.heap.size w w' := by
  have HTA := Lib.hid ha
  have HTB := Lib.hid hb
  have HLB := Lib.hid hb.2.2.1
  have HLA := Lib.hid ha.2.2.1
  clear ha hb
  have hmk := run_make_row' (P := Try.prog) 25 122 (.int .u32 0) 4 Try.underNat Try.infoU32 rfl .i64 .i64 (na + nb) (by omega) (by omega)
  have ec : ((na + nb : Nat) : Int) = (na : Int) + (nb : Int) := by omega
  rw [ec] at hmk
  clear ec
  go_enter Try.func110, Try.ntmps110
  go_wp2_with fail
  go_loopw [6] (fun i wr => ∃ k : Nat, k ≤ na ∧ i = .int .i64 k ∧ wr.rowIs w.heap.size 122 (na + nb) (mulRow ma mb k 0) ∧ Below w.heap.size w wr) (fun i _ => na - (intOf i).toNat)
  case atStart => exact ⟨0, Nat.zero_le _, rfl, (World.rowIs_made _ _ _ _).congr (fun i hi => by simp [mulRow, prj, Nat.mod_one, dig_zero]), (Below.refl _ _).alloc (Nat.le_refl _) _⟩
  case round =>
    clear hmk
    obtain ⟨k, hk, rfl, hrow, hbel⟩ := hrel
    by_cases hkn : k < na
    · obtain ⟨b1, o1, rfl, _, hc1⟩ := HTA.out.2.2.2 (by omega)
      have HC1 := Lib.hid (hc1 k hkn)
      clear hc1
      have d1 := dig_lt' ma k
      have HR := Lib.hid hrow
      have HBel := Lib.hid hbel
      clear hrow hbel
      go_wp2_with fail
      obtain ⟨wo, rfl⟩ : ∃ wo : World, wo = wr := ⟨_, rfl⟩
      go_loopw [7, 8, 9] (fun c j _ wq => ∃ l : Nat, l ≤ nb ∧ j = .int .i64 l ∧ c = .int .u64 (mca ma mb k l) ∧ wq.rowIs w.heap.size 122 (na + nb) (mulRow ma mb k l) ∧ Below w.heap.size w wq) (fun _ j _ _ => nb - (intOf j).toNat)
      case atStart => exact ⟨0, Nat.zero_le _, rfl, by rw [mca_zero]; rfl, HR.out, HBel.out⟩
      case round =>
        obtain ⟨l, hl, rfl, rfl, hrow, hbel⟩ := hrel
        have d5 := mca_lt ma mb k l
        rw [B_eq] at d5
        by_cases hln : l < nb
        · obtain ⟨b2, o2, rfl, _, hc2⟩ := HTB.out.2.2.2 (by omega)
          have hcell2 := (hbel.cell (p := ⟨b2, o2 + l, none⟩) (World.block_lt_of_cell? w _ (hc2 l hln))).trans (hc2 l hln)
          have hcell1 := (hbel.cell (p := ⟨b1, o1 + k, none⟩) (World.block_lt_of_cell? w _ HC1.out)).trans HC1.out
          clear hc2
          have d2 := dig_lt' mb l
          have d3 := dig_lt' (prj ma mb k 0) (k + l)
          have d4 := dd_le _ _ d1 d2
          have hput : wr.cell? ⟨w.heap.size, k + l, none⟩ = some (.int .u32 (dig (prj ma mb k 0) (k + l))) := by
            have := hrow.cell (i := k + l) (by omega)
            simpa [mulRow] using this
          have hfz := hrow.frozen (k + l)
          have HR2 := Lib.hid hrow
          have HBel2 := Lib.hid hbel
          clear hrow hbel
          have w2 : ((k : Int) + (l : Int)).toNat = k + l := by omega
          have w3 : (0 : Int) ≤ (k : Int) + (l : Int) := by omega
          have w1 : IntKind.i64.wrap ((k : Int) + (l : Int)) = (k : Int) + (l : Int) := by rw [IntKind.wrap_i64]; omega
          have w9 : (dig ma k : Int) * (dig mb l : Int) ≤ 18446744065119617025 := by have h := Int.ofNat_le.2 d4; rw [Int.natCast_mul] at h; exact h
          have w8 : (0 : Int) ≤ (dig ma k : Int) * (dig mb l : Int) := Int.mul_nonneg (by omega) (by omega)
          have w4 : IntKind.u64.wrap ((dig ma k : Int) * (dig mb l : Int)) = (dig ma k : Int) * (dig mb l : Int) := wrap_u64_id _ w8 (by omega)
          have w5 : IntKind.u64.wrap ((dig (prj ma mb k 0) (k + l) : Int) + (dig ma k : Int) * (dig mb l : Int)) = (dig (prj ma mb k 0) (k + l) : Int) + (dig ma k : Int) * (dig mb l : Int) := wrap_u64_id _ (by omega) (by omega)
          have w6 : IntKind.u64.wrap ((dig (prj ma mb k 0) (k + l) : Int) + (dig ma k : Int) * (dig mb l : Int) + (mca ma mb k l : Int)) = (dig (prj ma mb k 0) (k + l) : Int) + (dig ma k : Int) * (dig mb l : Int) + (mca ma mb k l : Int) := wrap_u64_id _ (by omega) (by omega)
          go_wp2_with fail
          go_quiet (fail)
          go_wp2_with fail
          go_roundw
          case rel => exact ⟨l + 1, by omega, by go_num, u64_congr (mca_intx ma mb k l), mulRow_step HR2.out (mdg_intx ma mb k l), (below_drewN HBel2.out _).setCell (Nat.le_refl _) _⟩
          case measure => simp [intOf]; omega
        · obtain rfl : l = nb := by omega
          have hput : ∃ v, wr.cell? ⟨w.heap.size, k + l, none⟩ = some v := ⟨_, hrow.cell (i := k + l) (by omega)⟩
          obtain ⟨v0, hput⟩ := hput
          have hfz := hrow.frozen (k + l)
          have HR2 := Lib.hid hrow
          have HBel2 := Lib.hid hbel
          clear hrow hbel
          go_wp2_with fail
          go_roundw
          case rel => exact ⟨k + 1, by omega, by go_num, mulRow_next HR2.out HLB.out rfl, HBel2.out.setCell (Nat.le_refl _) _⟩
          case measure => simp [intOf]; omega
    · obtain rfl : k = na := by omega
      have HL := Lib.hid (show ma * mb < B ^ (k + nb) by rw [Nat.pow_add]; exact Nat.mul_lt_mul_of_lt_of_le HLA.out (Nat.le_of_lt HLB.out) (pB _))
      have HM := Lib.hid (Nat.mod_eq_of_lt HLA.out)
      have HR := Lib.hid hrow
      have HBel := Lib.hid hbel
      clear hrow hbel
      go_wp2_with fail
      have hnt := Nt.of_row (N := N) HR.out (by unfold maxLen; omega) HL.out (fun i hi => by simp [mulRow, prj_zero, HM.out])
      have HN := Lib.hid hnt
      clear hnt
      refine (xnorm_any (N := N) _ _ _ _ _ HN.out (by omega)).mono ?_
      rintro e w' ⟨r, cr, rfl, hn, hb⟩
      have HN2 := Lib.hid hn
      have HB2 := Lib.hid hb
      clear hn hb
      go_wp2_with fail
      go_ret
      exact ⟨_, _, rfl, HN2.out, HBel.out.trans (HB2.out.mono HBel.out.size)⟩

set_option maxHeartbeats 1000000 in
theorem short_any {N : Nat} (a : Option Addr) (n cap m d : Nat) (w : World) (h : Nt N w a n cap m) (hl : n ≤ 1099511627776) (hd : 0 < d) (hdB : d < 4294967296) :
    Calls Try.prog 175 #[.slice a n cap, .int .u64 d] w fun e w' => ∃ r cr, e = .returned (.tuple #[.slice r (nlen (m / d)) cr, .int .u64 (m % d : Nat)]) ∧ Nt N w' r (nlen (m / d)) cr (m / d) ∧ Below w.heap.size w w' := by
  have H := Lib.hid h
  clear h
  have hmk := run_make_row' (P := Try.prog) 25 122 (.int .u32 0) 4 Try.underNat Try.infoU32 rfl .i64 .i64 n (by omega) (by omega)
  go_enter Try.func175, Try.ntmps175
  go_wp2_with fail
  go_loopw [7, 8] (fun c i wr => ∃ k : Nat, k ≤ n ∧ i = .int .i64 ((k : Int) - 1) ∧ c = .int .u64 (rst m d k) ∧ wr.rowIs w.heap.size 122 n (divRow (m / d) k) ∧ Below w.heap.size w wr) (fun _ i _ => (intOf i + 1).toNat)
  case atStart => exact ⟨n, Nat.le_refl _, rfl, by rw [rst_top m d n H.out.2.2.1 hd]; rfl, (World.rowIs_made _ _ _ _).congr (fun i hi => by simp only [divRow]; rw [if_neg (by omega)]; rfl), (Below.refl _ _).alloc (Nat.le_refl _) _⟩
  case round =>
    obtain ⟨k, hk, rfl, rfl, hrow, hbel⟩ := hrel
    have d3 := rst_lt m d k hd
    by_cases hk0 : 0 < k
    · obtain ⟨b1, o1, rfl, _, hc1⟩ := H.out.2.2.2 (by omega)
      have hcell1 := (hbel.cell (p := ⟨b1, o1 + (k - 1), none⟩) (World.block_lt_of_cell? w _ (hc1 (k - 1) (by omega)))).trans (hc1 (k - 1) (by omega))
      clear hc1
      have hput := hrow.cell (i := k - 1) (by omega)
      have hfz := hrow.frozen (k - 1)
      have hz1 : ((k : Int) - 1).toNat = k - 1 := by omega
      have hh1 : (0 : Int) ≤ (k : Int) - 1 := by omega
      have d1 := dig_lt' m (k - 1)
      have HR := Lib.hid hrow
      have HBel := Lib.hid hbel
      clear hrow hbel hmk
      go_wp2_with fail
      go_roundw
      case rel =>
        have e : k - 1 + 1 = k := by omega
        have q1 := quo_int m d (k - 1) hd hdB
        have q2 := rst_int m d (k - 1) hd
        rw [e] at q1 q2
        exact ⟨k - 1, by omega, i64_congr (by omega), u64_congr q2, divRow_step (by rw [e]; exact HR.out) q1, HBel.out.setCell (Nat.le_refl _) _⟩
      case measure => simp [intOf]; omega
    · obtain rfl : k = 0 := by omega
      have HL := Lib.hid (Nat.lt_of_le_of_lt (Nat.div_le_self m d) H.out.2.2.1)
      have HR := Lib.hid hrow
      have HBel := Lib.hid hbel
      have HZ := Lib.hid (rst_zero m d)
      clear hrow hbel hmk
      go_wp2_with fail
      have hnt := Nt.of_row (N := N) HR.out (by unfold maxLen; omega) HL.out (fun i hi => by simp [divRow])
      have HN := Lib.hid hnt
      clear hnt
      refine (xnorm_any (N := N) _ _ _ _ _ HN.out (by omega)).mono ?_
      rintro e w' ⟨r, cr, rfl, hn, hb⟩
      have HN2 := Lib.hid hn
      have HB2 := Lib.hid hb
      clear hn hb
      go_wp2_with fail
      go_ret2
      rw [HZ.out]
      exact ⟨_, _, rfl, HN2.out, HBel.out.trans (HB2.out.mono HBel.out.size)⟩

set_option maxHeartbeats 1000000 in
theorem bits_any {N : Nat} (a : Option Addr) (n cap m : Nat) (w : World) (h : Nt N w a n cap m) (hl : n ≤ 1099511627776) :
    Calls Try.prog 141 #[.slice a n cap] w fun e w' => e = .returned (.int .i64 (bl m)) ∧ Below w.heap.size w w' := by
  have l1 := h.len
  have H := Lib.hid h
  clear h
  go_enter Try.func141, Try.ntmps141
  go_wp2_with fail
  refine (xnorm_any (N := N) _ _ _ m _ H.out (by omega)).mono ?_
  rintro e w1 ⟨r, cr, rfl, hn, hb⟩
  have HN := Lib.hid hn
  have HB := Lib.hid hb
  clear hn hb
  rcases Nat.eq_zero_or_pos (nlen m) with hz | hz
  · have HZ := Lib.hid (show bl m = 0 from bl_eq_zero.2 (nlen_eq_zero.1 hz))
    have hz2 : ((nlen m : Int) == 0) = true := by simp; omega
    clear hz
    go_wp2_with fail
    go_ret
    rw [HZ.out]
    exact ⟨rfl, HB.out⟩
  · obtain ⟨t, ht⟩ : ∃ t, nlen m = t + 1 := ⟨nlen m - 1, by omega⟩
    have HT := Lib.hid (bl_top ht)
    obtain ⟨b, off, rfl, _, hc⟩ := HN.out.2.2.2 hz
    have hcell := hc t (by omega)
    rw [ht] at l1 ⊢
    clear hc ht hz HN
    have hd := dig_lt' m t
    have hbd := bl_dig m t
    have hz2 : (((t + 1 : Nat) : Int) == 0) = false := by simp; omega
    go_wp2_with fail
    go_loop [3, 4] (fun s x => ∃ y c : Nat, y ≤ dig m t ∧ c + bl y = bl (dig m t) ∧ s = .int .i64 (32 * (t : Int) + c) ∧ x = .int .u32 y) (fun _ x => (intOf x).toNat)
    case atStart => exact ⟨dig m t, 0, Nat.le_refl _, by omega, i64_congr (by omega), rfl⟩
    case round =>
      obtain ⟨y, c, hy, hcb, rfl, rfl⟩ := hrel
      have HCB := Lib.hid hcb
      have hc32 : c ≤ 32 := by omega
      clear hcb
      by_cases hy0 : y = 0
      · subst hy0
        have HE := Lib.hid (show bl m = 32 * t + c by have h1 := HCB.out; have h2 := HT.out; rw [bl_zero] at h1; omega)
        go_wp2_with fail
        go_ret
        rw [HE.out]
        exact ⟨rfl, HB.out⟩
      · have HP := Lib.hid (bl_pos hy0)
        have hy1 : 0 < y := by omega
        clear hy0
        go_wp2_with fail
        go_round
        case rel => exact ⟨y / 2, c + 1, by omega, by have h1 := HCB.out; have h2 := HP.out; omega, i64_congr (by omega), u32_congr (by omega)⟩
        case measure => simp [intOf]; omega

end Go.Proofs.Ytnidfpilmmhniaa
