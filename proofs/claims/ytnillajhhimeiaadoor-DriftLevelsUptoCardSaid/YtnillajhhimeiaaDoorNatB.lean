/- Contract of nat.Add: for all numbers of at most 2^40 limbs. -/
import Derived.Test.YtnillajhhimeiaaDoorNatA
namespace Go.Proofs.YtnillajhhimeiaaDoor
open Go.RowKit

/-- the row of a number behind k rounds -/
def sumRow (s k : Nat) (i : Nat) : Value := if i < k then .int .u32 (dig s i) else .int .u32 0

theorem sumRow_step {w : World} {b n s k : Nat} {v : Int} (h : w.rowIs b 51 n (sumRow s k)) (hv : v = dig s k) :
    (w.setCell ⟨b, k, none⟩ (.int .u32 v)).rowIs b 51 n (sumRow s (k + 1)) := by
  refine (h.set k (.int .u32 v)).congr fun i hi => ?_
  simp only [sumRow]
  by_cases h1 : i = k
  · subst h1; simp [hv]
  · rw [if_neg h1]
    by_cases h2 : i < k
    · rw [if_pos h2, if_pos (by omega)]
    · rw [if_neg h2, if_neg (by omega)]

theorem car_int (a b k : Nat) : ((dig a k : Int) + (car a b k : Int) + (dig b k : Int)) / 4294967296 = (car a b (k + 1) : Int) := by
  have h := car_succ a b k; simp only [B] at h; omega
theorem dig_int (a b k : Nat) : ((dig a k : Int) + (car a b k : Int) + (dig b k : Int)) % 4294967296 = (dig (a + b) k : Int) := by
  have h := dig_add a b k; simp only [B] at h; omega
theorem car_int0 (a b k : Nat) (h0 : dig b k = 0) : ((dig a k : Int) + (car a b k : Int)) / 4294967296 = (car a b (k + 1) : Int) := by
  have h := car_succ a b k; simp only [B] at h; omega
theorem dig_int0 (a b k : Nat) (h0 : dig b k = 0) : ((dig a k : Int) + (car a b k : Int)) % 4294967296 = (dig (a + b) k : Int) := by
  have h := dig_add a b k; simp only [B] at h; omega
theorem u64_congr {x y : Int} (h : x = y) : Value.int .u64 x = Value.int .u64 y := by rw [h]
theorem u32_congr {x y : Int} (h : x = y) : Value.int .u32 x = Value.int .u32 y := by rw [h]
theorem i64_congr {x y : Int} (h : x = y) : Value.int .i64 x = Value.int .i64 y := by rw [h]

set_option maxHeartbeats 1000000 in
theorem add_any {N : Nat} (a b : Option Addr) (na ca ma nb cb mb : Nat) (w : World) (_hN : N ≤ w.heap.size) (ha : Nt N w a na ca ma) (hb : Nt N w b nb cb mb) (la : na ≤ 1099511627776) (lb : nb ≤ 1099511627776) :
    Calls Tryd.prog 60 #[.slice a na ca, .slice b nb cb] w fun e w' => ∃ r cr, e = .returned (.slice r (nlen (ma + mb)) cr) ∧ Nt N w' r (nlen (ma + mb)) cr (ma + mb) ∧ Below w.heap.size w w' := by
  have l1 := ha.len
  have l2 := hb.len
  have HA := Lib.hid ha
  have HB := Lib.hid hb
  have HTA := Lib.hid ha.trim
  have HTB := Lib.hid hb.trim
  have HC := Lib.hid (Nat.add_comm mb ma)
  clear ha hb
  by_cases hlt : nlen ma < nlen mb
  · have hmk := run_make_row' (P := Tryd.prog) 26 51 (.int .u32 0) 4 Tryd.underNat Tryd.infoU32 rfl .i64 .i64 (nlen mb + 1) (by omega) (by omega)
    have ec : ((nlen mb + 1 : Nat) : Int) = (nlen mb : Int) + 1 := by omega
    rw [ec] at hmk
    clear ec
    go_enter Tryd.func60, Tryd.ntmps60
    go_wp2_with fail
    refine (trim_any _ _ _ _ _ HA.out).mono ?_
    rintro e w' ⟨rfl, rfl⟩
    go_wp2_with fail
    refine (trim_any _ _ _ _ _ HB.out).mono ?_
    rintro e w' ⟨rfl, rfl⟩
    go_wp2_with fail
    go_loopw [6, 26] (fun c i wr => ∃ k : Nat, k ≤ nlen mb ∧ i = .int .i64 k ∧ c = .int .u64 (car mb ma k) ∧ wr.rowIs w.heap.size 51 (nlen mb + 1) (sumRow (mb + ma) k) ∧ Below w.heap.size w wr) (fun _ i _ => nlen mb - (intOf i).toNat)
    case atStart => exact ⟨0, Nat.zero_le _, rfl, by rw [car_zero]; rfl, (World.rowIs_made _ _ _ _).congr (fun i hi => by simp [sumRow]), (Below.refl _ _).alloc (Nat.le_refl _) _⟩
    case round =>
      obtain ⟨k, hk, rfl, rfl, hrow, hbel⟩ := hrel
      have d3 := car_le mb ma k
      have hput := hrow.cell (i := k) (by omega)
      have hfz := hrow.frozen k
      by_cases hkn : k < nlen mb
      · obtain ⟨b1, o1, rfl, _, hc1⟩ := HTB.out.2.2.2 (by omega)
        have hcell1 := (hbel.cell (p := ⟨b1, o1 + k, none⟩) (World.block_lt_of_cell? w _ (hc1 k hkn))).trans (hc1 k hkn)
        clear hc1
        have d1 := dig_lt' mb k
        have d2 := dig_lt' ma k
        by_cases hkb : k < nlen ma
        · obtain ⟨b2, o2, rfl, _, hc2⟩ := HTA.out.2.2.2 (by omega)
          have hcell2 := (hbel.cell (p := ⟨b2, o2 + k, none⟩) (World.block_lt_of_cell? w _ (hc2 k hkb))).trans (hc2 k hkb)
          clear hc2
          have HR := Lib.hid hrow
          have HBel := Lib.hid hbel
          clear hrow hbel hmk
          go_wp2
          go_roundw
          case rel => exact ⟨k + 1, by omega, by go_num, u64_congr (car_int mb ma k), sumRow_step HR.out (dig_int mb ma k), HBel.out.setCell (Nat.le_refl _) _⟩
          case measure => simp [intOf]; omega
        · have H0 := Lib.hid (dig_high' ma (nlen ma) k (lt_pow_nlen ma) (by omega))
          have HR := Lib.hid hrow
          have HBel := Lib.hid hbel
          clear hrow hbel hmk
          go_wp2
          go_roundw
          case rel => exact ⟨k + 1, by omega, by go_num, u64_congr (car_int0 mb ma k H0.out), sumRow_step HR.out (dig_int0 mb ma k H0.out), HBel.out.setCell (Nat.le_refl _) _⟩
          case measure => simp [intOf]; omega
      · obtain rfl : k = nlen mb := by omega
        have HT := Lib.hid (car_top mb ma (nlen mb) (lt_pow_nlen mb) (Nat.lt_of_lt_of_le (lt_pow_nlen ma) (pB_le (by omega))))
        have hlt2 : mb + ma < B ^ (nlen mb + 1) := Nat.lt_of_lt_of_le (lt_pow_nlen _) (pB_le (Nat.le_trans (nlen_add _ _) (by omega)))
        have HR := Lib.hid hrow
        have HBel := Lib.hid hbel
        have HL := Lib.hid hlt2
        clear hrow hbel hmk hlt2
        go_wp2_with fail
        have hr2 := sumRow_step HR.out (v := (car mb ma (nlen mb) : Int)) (by rw [HT.out])
        have hnt := Nt.of_row (N := N) hr2 (by unfold maxLen; omega) HL.out (fun i hi => by simp [sumRow, hi])
        refine (trim_any _ _ _ _ _ hnt).mono ?_
        rintro e w' ⟨rfl, rfl⟩
        have HN := Lib.hid hnt.trim
        clear hr2 hnt
        go_wp2_with fail
        go_ret
        rw [HC.out] at HN ⊢
        exact ⟨_, _, rfl, HN.out, HBel.out.setCell (Nat.le_refl _) _⟩
  · have hmk := run_make_row' (P := Tryd.prog) 26 51 (.int .u32 0) 4 Tryd.underNat Tryd.infoU32 rfl .i64 .i64 (nlen ma + 1) (by omega) (by omega)
    have ec : ((nlen ma + 1 : Nat) : Int) = (nlen ma : Int) + 1 := by omega
    rw [ec] at hmk
    clear ec
    go_enter Tryd.func60, Tryd.ntmps60
    go_wp2_with fail
    refine (trim_any _ _ _ _ _ HA.out).mono ?_
    rintro e w' ⟨rfl, rfl⟩
    go_wp2_with fail
    refine (trim_any _ _ _ _ _ HB.out).mono ?_
    rintro e w' ⟨rfl, rfl⟩
    go_wp2_with fail
    go_loopw [6, 26] (fun c i wr => ∃ k : Nat, k ≤ nlen ma ∧ i = .int .i64 k ∧ c = .int .u64 (car ma mb k) ∧ wr.rowIs w.heap.size 51 (nlen ma + 1) (sumRow (ma + mb) k) ∧ Below w.heap.size w wr) (fun _ i _ => nlen ma - (intOf i).toNat)
    case atStart => exact ⟨0, Nat.zero_le _, rfl, by rw [car_zero]; rfl, (World.rowIs_made _ _ _ _).congr (fun i hi => by simp [sumRow]), (Below.refl _ _).alloc (Nat.le_refl _) _⟩
    case round =>
      obtain ⟨k, hk, rfl, rfl, hrow, hbel⟩ := hrel
      have d3 := car_le ma mb k
      have hput := hrow.cell (i := k) (by omega)
      have hfz := hrow.frozen k
      by_cases hkn : k < nlen ma
      · obtain ⟨b1, o1, rfl, _, hc1⟩ := HTA.out.2.2.2 (by omega)
        have hcell1 := (hbel.cell (p := ⟨b1, o1 + k, none⟩) (World.block_lt_of_cell? w _ (hc1 k hkn))).trans (hc1 k hkn)
        clear hc1
        have d1 := dig_lt' ma k
        have d2 := dig_lt' mb k
        by_cases hkb : k < nlen mb
        · obtain ⟨b2, o2, rfl, _, hc2⟩ := HTB.out.2.2.2 (by omega)
          have hcell2 := (hbel.cell (p := ⟨b2, o2 + k, none⟩) (World.block_lt_of_cell? w _ (hc2 k hkb))).trans (hc2 k hkb)
          clear hc2
          have HR := Lib.hid hrow
          have HBel := Lib.hid hbel
          clear hrow hbel hmk
          go_wp2
          go_roundw
          case rel => exact ⟨k + 1, by omega, by go_num, u64_congr (car_int ma mb k), sumRow_step HR.out (dig_int ma mb k), HBel.out.setCell (Nat.le_refl _) _⟩
          case measure => simp [intOf]; omega
        · have H0 := Lib.hid (dig_high' mb (nlen mb) k (lt_pow_nlen mb) (by omega))
          have HR := Lib.hid hrow
          have HBel := Lib.hid hbel
          clear hrow hbel hmk
          go_wp2
          go_roundw
          case rel => exact ⟨k + 1, by omega, by go_num, u64_congr (car_int0 ma mb k H0.out), sumRow_step HR.out (dig_int0 ma mb k H0.out), HBel.out.setCell (Nat.le_refl _) _⟩
          case measure => simp [intOf]; omega
      · obtain rfl : k = nlen ma := by omega
        have HT := Lib.hid (car_top ma mb (nlen ma) (lt_pow_nlen ma) (Nat.lt_of_lt_of_le (lt_pow_nlen mb) (pB_le (by omega))))
        have hlt2 : ma + mb < B ^ (nlen ma + 1) := Nat.lt_of_lt_of_le (lt_pow_nlen _) (pB_le (Nat.le_trans (nlen_add _ _) (by omega)))
        have HR := Lib.hid hrow
        have HBel := Lib.hid hbel
        have HL := Lib.hid hlt2
        clear hrow hbel hmk hlt2
        go_wp2_with fail
        have hr2 := sumRow_step HR.out (v := (car ma mb (nlen ma) : Int)) (by rw [HT.out])
        have hnt := Nt.of_row (N := N) hr2 (by unfold maxLen; omega) HL.out (fun i hi => by simp [sumRow, hi])
        refine (trim_any _ _ _ _ _ hnt).mono ?_
        rintro e w' ⟨rfl, rfl⟩
        have HN := Lib.hid hnt.trim
        clear hr2 hnt
        go_wp2_with fail
        go_ret
        exact ⟨_, _, rfl, HN.out, HBel.out.setCell (Nat.le_refl _) _⟩

end Go.Proofs.YtnillajhhimeiaaDoor
