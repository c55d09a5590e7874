/- Contracts of nat.shiftRight, nat.subtract and nat.addBack. -/
import Derived.Test.YtnillajhhimeiaaDoorNatG
namespace Go.Proofs.YtnillajhhimeiaaDoor
open Go.RowKit

theorem shr_dig (m s i : Nat) (hs : s < 32) : dig (m / 2 ^ s) i = (dig m i + dig m (i + 1) * B) / 2 ^ s % B := by
  have e : dig m i + dig m (i + 1) * B = m / B ^ i % (B * B) := by
    unfold dig
    rw [Nat.mod_mul, pB_succ, ← Nat.div_div_eq_div_mul, Nat.mul_comm]
  rw [e]
  unfold dig
  rw [Nat.div_div_eq_div_mul, Nat.mul_comm (2 ^ s), ← Nat.div_div_eq_div_mul]
  generalize m / B ^ i = X
  rw [← Nat.mod_mul_right_div_self X (2 ^ s) B, ← Nat.mod_mul_right_div_self (X % (B * B)) (2 ^ s) B]
  congr 1
  exact (Nat.mod_mod_of_dvd X (Nat.mul_dvd_mul ⟨2 ^ (32 - s), (two_split s hs).symm⟩ (Nat.dvd_refl B))).symm
theorem shr_dig0 (m s i : Nat) (hs : s < 32) (h0 : dig m (i + 1) = 0) : dig (m / 2 ^ s) i = dig m i / 2 ^ s % B := by
  rw [shr_dig m s i hs, h0]; simp
theorem or_u64' (x y : Nat) (hx : x < 4294967296) (hy : y < 4294967296) : bits BinOp.or IntKind.u64 (y : Int) ((x : Int) * 4294967296) = (y : Int) + (x : Int) * 4294967296 := by
  have e : ((x : Int) * 4294967296) = ((x * 4294967296 : Nat) : Int) := by omega
  rw [e, bits_or_u64_nat _ _ (by omega) (by omega), Nat.or_comm, or_nat x y hy]
  omega
theorem shr_int (m s i : Nat) (hs : s < 32) : ((dig m i : Int) + (dig m (i + 1) : Int) * 4294967296) / 2 ^ s % 4294967296 = (dig (m / 2 ^ s) i : Nat) := by
  rw [shr_dig m s i hs]; simp [B]
theorem shr_int0 (m s i : Nat) (hs : s < 32) (h0 : dig m (i + 1) = 0) : (dig m i : Int) / 2 ^ s % 4294967296 = (dig (m / 2 ^ s) i : Nat) := by
  rw [shr_dig0 m s i hs h0]; simp [B]

set_option maxHeartbeats 1000000 in
theorem shr_any {N : Nat} (a : Option Addr) (n cap m s : Nat) (w : World) (h : Nt N w a n cap m) (hl : n ≤ 1099511627776) (hs : s < 32) :
    Calls Tryd.prog 96 #[.slice a n cap, .int .i64 s] w fun e w' => ∃ r, e = .returned (.slice r n n) ∧ Nt N w' r n n (m / 2 ^ s) ∧ Below w.heap.size w w' := by
  have H := Lib.hid h
  clear h
  have hmk := run_make_row' (P := Tryd.prog) 26 51 (.int .u32 0) 4 Tryd.underNat Tryd.infoU32 rfl .i64 .i64 n (by omega) (by omega)
  go_enter Tryd.func96, Tryd.ntmps96
  go_wp2_with fail
  go_loopw [14] (fun i wr => ∃ k : Nat, k ≤ n ∧ i = .int .i64 k ∧ wr.rowIs w.heap.size 51 n (sumRow (m / 2 ^ s) k) ∧ Below w.heap.size w wr) (fun i _ => n - (intOf i).toNat)
  case atStart => exact ⟨0, Nat.zero_le _, rfl, (World.rowIs_made _ _ _ _).congr (fun i hi => by simp [sumRow]), (Below.refl _ _).alloc (Nat.le_refl _) _⟩
  case round =>
    obtain ⟨k, hk, rfl, hrow, hbel⟩ := hrel
    by_cases hkn : k < n
    · obtain ⟨b1, o1, rfl, _, hc1⟩ := H.out.2.2.2 (by omega)
      have hcell1 := (hbel.cell (p := ⟨b1, o1 + k, none⟩) (World.block_lt_of_cell? w _ (hc1 k hkn))).trans (hc1 k hkn)
      have hput := hrow.cell (i := k) (by omega)
      have hfz := hrow.frozen k
      have d1 := dig_lt' m k
      by_cases hk1 : k + 1 < n
      · have hcell2 := (hbel.cell (p := ⟨b1, o1 + (k + 1), none⟩) (World.block_lt_of_cell? w _ (hc1 (k + 1) hk1))).trans (hc1 (k + 1) hk1)
        clear hc1
        have d2 := dig_lt' m (k + 1)
        have hor := or_u64' (dig m (k + 1)) (dig m k) d2 d1
        have HR := Lib.hid hrow
        have HBel := Lib.hid hbel
        clear hrow hbel hmk
        go_wp2
        go_roundw
        case rel => exact ⟨k + 1, by omega, by go_num, sumRow_step HR.out (shr_int m s k hs), HBel.out.setCell (Nat.le_refl _) _⟩
        case measure => simp [intOf]; omega
      · clear hc1
        have H0 := Lib.hid (dig_high' m n (k + 1) H.out.2.2.1 (by omega))
        have HR := Lib.hid hrow
        have HBel := Lib.hid hbel
        clear hrow hbel hmk
        go_wp2
        go_roundw
        case rel => exact ⟨k + 1, by omega, by go_num, sumRow_step HR.out (shr_int0 m s k hs H0.out), HBel.out.setCell (Nat.le_refl _) _⟩
        case measure => simp [intOf]; omega
    · obtain rfl : k = n := by omega
      have HL := Lib.hid (Nat.lt_of_le_of_lt (Nat.div_le_self m (2 ^ s)) H.out.2.2.1)
      have HR := Lib.hid hrow
      have HBel := Lib.hid hbel
      clear hrow hbel hmk
      go_wp2_with fail
      go_ret
      exact ⟨_, rfl, Nt.of_row HR.out (by unfold maxLen; omega) HL.out (fun i hi => by simp [sumRow, hi]), HBel.out⟩

end Go.Proofs.YtnillajhhimeiaaDoor
