/- Contract of nat.Mul: for all numbers of at most 2^40 limbs. -/
import Derived.Test.YtnillajhhimeiaaDoorNatC
namespace Go.Proofs.YtnillajhhimeiaaDoor
open Go.RowKit

def mulRow (a b i j p : Nat) : Value := .int .u32 (if p < i + j then dig (prj a b i j) p else dig (prj a b i 0) p : Nat)

theorem mulRow_step {w : World} {bk n a b i j : Nat} {v : Int} (h : w.rowIs bk 51 n (mulRow a b i j)) (hv : v = (mst a b i j % B : Nat)) :
    (w.setCell ⟨bk, i + j, none⟩ (.int .u32 v)).rowIs bk 51 n (mulRow a b i (j + 1)) := by
  refine (h.set (i + j) (.int .u32 v)).congr fun p hp => ?_
  simp only [mulRow]
  by_cases h1 : p = i + j
  · subst h1; rw [if_pos rfl, if_pos (by omega), hv, dig_prj_new]
  · rw [if_neg h1]
    by_cases h2 : p < i + j
    · rw [if_pos h2, if_pos (by omega), dig_prj_low a b i j p h2]
    · rw [if_neg h2, if_neg (by omega)]

theorem mulRow_next {w : World} {bk n a b i lb : Nat} {v : Int} (h : w.rowIs bk 51 n (mulRow a b i lb)) (hb : b < B ^ lb) (hv : v = (mca a b i lb : Nat)) :
    (w.setCell ⟨bk, i + lb, none⟩ (.int .u32 v)).rowIs bk 51 n (mulRow a b (i + 1) 0) := by
  refine (h.set (i + lb) (.int .u32 v)).congr fun p hp => ?_
  simp only [mulRow]
  by_cases h1 : p = i + lb
  · subst h1; rw [if_pos rfl, hv, mca_end a b i lb hb, prj_end a b i lb hb]; simp
  · rw [if_neg h1]
    by_cases h2 : p < i + lb
    · rw [if_pos h2, prj_end a b i lb hb]; simp
    · have h3 : dig (prj a b i 0) p = 0 := by rw [prj_zero]; exact dig_high' _ (i + lb) p (low_mul_lt a b i lb hb) (by omega)
      have h4 : dig (prj a b (i + 1) 0) p = 0 := by rw [prj_zero]; exact dig_high' _ (i + 1 + lb) p (low_mul_lt a b (i + 1) lb hb) (by omega)
      rw [if_neg h2, h3]; simp [h4]

theorem mst_int (a b i j : Nat) : (dig a i : Int) * (dig b j : Int) + (dig (prj a b i 0) (i + j) : Int) + (mca a b i j : Int) = (mst a b i j : Int) := by
  unfold mst; rw [prj_zero]; simp
theorem mca_int (a b i j : Nat) : ((dig a i : Int) * (dig b j : Int) + (dig (prj a b i 0) (i + j) : Int) + (mca a b i j : Int)) / 4294967296 = (mca a b i (j + 1) : Int) := by
  rw [mst_int, mca_succ]; simp [B]
theorem mdg_int (a b i j : Nat) : ((dig a i : Int) * (dig b j : Int) + (dig (prj a b i 0) (i + j) : Int) + (mca a b i j : Int)) % 4294967296 = (mst a b i j % B : Nat) := by
  rw [mst_int]; simp [B]
theorem dd_le (x y : Nat) (hx : x < 4294967296) (hy : y < 4294967296) : x * y ≤ 18446744065119617025 := by
  have := Nat.mul_le_mul (show x ≤ 4294967295 by omega) (show y ≤ 4294967295 by omega)
  omega

set_option maxHeartbeats 1000000 in
theorem mul_any {N : Nat} (a b : Option Addr) (na ca ma nb cb mb : Nat) (w : World) (_hN : N ≤ w.heap.size) (ha : Nt N w a na ca ma) (hb : Nt N w b nb cb mb) (la : na ≤ 1099511627776) (lb : nb ≤ 1099511627776) :
    Calls Tryd.prog 59 #[.slice a na ca, .slice b nb cb] w fun e w' => ∃ r cr, e = .returned (.slice r (nlen (ma * mb)) cr) ∧ Nt N w' r (nlen (ma * mb)) cr (ma * mb) ∧ Below w.heap.size w w' := by
  have l1 := ha.len
  have l2 := hb.len
  have HA := Lib.hid ha
  have HB := Lib.hid hb
  have HTA := Lib.hid ha.trim
  have HTB := Lib.hid hb.trim
  clear ha hb
  have hmk := run_make_row' (P := Tryd.prog) 26 51 (.int .u32 0) 4 Tryd.underNat Tryd.infoU32 rfl .i64 .i64 (nlen ma + nlen mb) (by omega) (by omega)
  have ec : ((nlen ma + nlen mb : Nat) : Int) = (nlen ma : Int) + (nlen mb : Int) := by omega
  rw [ec] at hmk
  clear ec
  go_enter Tryd.func59, Tryd.ntmps59
  go_wp2_with fail
  refine (trim_any _ _ _ _ _ HA.out).mono ?_
  rintro e w' ⟨rfl, rfl⟩
  go_wp2_with fail
  refine (trim_any _ _ _ _ _ HB.out).mono ?_
  rintro e w' ⟨rfl, rfl⟩
  go_wp2_with fail
  go_loopw [24] (fun i wr => ∃ k : Nat, k ≤ nlen ma ∧ i = .int .i64 k ∧ wr.rowIs w.heap.size 51 (nlen ma + nlen mb) (mulRow ma mb k 0) ∧ Below w.heap.size w wr) (fun i _ => nlen ma - (intOf i).toNat)
  case atStart => exact ⟨0, Nat.zero_le _, rfl, (World.rowIs_made _ _ _ _).congr (fun i hi => by simp [mulRow, prj, Nat.mod_one, dig_zero]), (Below.refl _ _).alloc (Nat.le_refl _) _⟩
  case round =>
    obtain ⟨k, hk, rfl, hrow, hbel⟩ := hrel
    by_cases hkn : k < nlen ma
    · obtain ⟨b1, o1, rfl, _, hc1⟩ := HTA.out.2.2.2 (by omega)
      have hcell1 := (hbel.cell (p := ⟨b1, o1 + k, none⟩) (World.block_lt_of_cell? w _ (hc1 k hkn))).trans (hc1 k hkn)
      clear hc1
      have d1 := dig_lt' ma k
      have HR := Lib.hid hrow
      have HBel := Lib.hid hbel
      clear hrow hbel hmk
      go_wp2_with fail
      obtain ⟨wo, rfl⟩ : ∃ wo : World, wo = wr := ⟨_, rfl⟩
      go_loopw [8, 31] (fun c j wq => ∃ l : Nat, l ≤ nlen mb ∧ j = .int .i64 l ∧ c = .int .u64 (mca ma mb k l) ∧ wq.rowIs w.heap.size 51 (nlen ma + nlen mb) (mulRow ma mb k l) ∧ Below w.heap.size w wq) (fun _ j _ => nlen mb - (intOf j).toNat)
      case atStart => exact ⟨0, Nat.zero_le _, rfl, by rw [mca_zero]; rfl, HR.out, HBel.out⟩
      case round =>
        obtain ⟨l, hl, rfl, rfl, hrow, hbel⟩ := hrel
        have d5 := mca_lt ma mb k l
        rw [B_eq] at d5
        by_cases hln : l < nlen mb
        · obtain ⟨b2, o2, rfl, _, hc2⟩ := HTB.out.2.2.2 (by omega)
          have hcell2 := (hbel.cell (p := ⟨b2, o2 + l, none⟩) (World.block_lt_of_cell? w _ (hc2 l hln))).trans (hc2 l hln)
          clear hc2 hcell1
          have d2 := dig_lt' mb l
          have d3 := dig_lt' (prj ma mb k 0) (k + l)
          have d4 := dd_le _ _ d1 d2
          have hput : wr.cell? ⟨w.heap.size, k + l, none⟩ = some (.int .u32 (dig (prj ma mb k 0) (k + l))) := by
            have := hrow.cell (i := k + l) (by omega)
            simpa [mulRow] using this
          have hfz := hrow.frozen (k + l)
          have HR2 := Lib.hid hrow
          have HBel2 := Lib.hid hbel
          clear hrow hbel
          go_wp2
          go_roundw
          case rel => exact ⟨l + 1, by omega, by go_num, u64_congr (mca_int ma mb k l), mulRow_step HR2.out (mdg_int ma mb k l), HBel2.out.setCell (Nat.le_refl _) _⟩
          case measure => simp [intOf]; omega
        · obtain rfl : l = nlen mb := by omega
          have hput : ∃ v, wr.cell? ⟨w.heap.size, k + nlen mb, none⟩ = some v := ⟨_, hrow.cell (i := k + nlen mb) (by omega)⟩
          obtain ⟨v0, hput⟩ := hput
          have hfz := hrow.frozen (k + nlen mb)
          have HR2 := Lib.hid hrow
          have HBel2 := Lib.hid hbel
          clear hrow hbel hcell1
          go_wp2
          go_roundw
          case rel => exact ⟨k + 1, by omega, by go_num, mulRow_next HR2.out (lt_pow_nlen mb) rfl, HBel2.out.setCell (Nat.le_refl _) _⟩
          case measure => simp [intOf]; omega
    · obtain rfl : k = nlen ma := by omega
      have HL := Lib.hid (show ma * mb < B ^ (nlen ma + nlen mb) from Nat.lt_of_lt_of_le (lt_pow_nlen _) (pB_le (nlen_mul _ _)))
      have HR := Lib.hid hrow
      have HBel := Lib.hid hbel
      clear hrow hbel hmk
      go_wp2_with fail
      have hnt := Nt.of_row (N := N) HR.out (by unfold maxLen; omega) HL.out (fun i hi => by simp [mulRow, prj_zero, Nat.mod_eq_of_lt (lt_pow_nlen ma)])
      refine (trim_any _ _ _ _ _ hnt).mono ?_
      rintro e w' ⟨rfl, rfl⟩
      have HN := Lib.hid hnt.trim
      clear hnt
      go_wp2_with fail
      go_ret
      exact ⟨_, _, rfl, HN.out, HBel.out⟩

end Go.Proofs.YtnillajhhimeiaaDoor
