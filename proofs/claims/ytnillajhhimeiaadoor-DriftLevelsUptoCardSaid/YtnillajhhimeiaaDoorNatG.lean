/- Contracts of nat.shiftLeft and nat.shiftRight: for all numbers of at most 2^40 limbs and shifts below 32. -/
import Derived.Test.YtnillajhhimeiaaDoorNatF
import Derived.Laws.BitsAllLaws
namespace Go.Proofs.YtnillajhhimeiaaDoor
open Go.RowKit

def shlRow (m s k i : Nat) : Value := .int .u32 (if i ≤ k then dig (m % B ^ k * 2 ^ s) i else 0 : Nat)

theorem two_split (s : Nat) (hs : s < 32) : 2 ^ s * 2 ^ (32 - s) = B := by
  rw [← Nat.pow_add, show s + (32 - s) = 32 by omega]; rfl
theorem two_le (s : Nat) (hs : s < 32) : 2 ^ s ≤ 2147483648 := by
  have := Nat.pow_le_pow_right (show 0 < 2 by decide) (show s ≤ 31 by omega)
  simpa using this
/-- what stands above place k -/
theorem shl_top (m s k : Nat) (_hs : s < 32) : m % B ^ k * 2 ^ s / B ^ k < 2 ^ s := by
  refine (Nat.div_lt_iff_lt_mul (pB k)).2 ?_
  rw [Nat.mul_comm (2 ^ s)]
  exact Nat.mul_lt_mul_of_pos_right (Nat.mod_lt _ (pB k)) (Nat.pow_pos (by decide))
theorem shl_dig (m s k : Nat) (hs : s < 32) : dig (m % B ^ k * 2 ^ s) k = m % B ^ k * 2 ^ s / B ^ k := by
  unfold dig
  exact Nat.mod_eq_of_lt (Nat.lt_of_lt_of_le (shl_top m s k hs) (Nat.le_trans (two_le s hs) (by decide)))
theorem shl_split (m s k : Nat) : m % B ^ (k + 1) * 2 ^ s = m % B ^ k * 2 ^ s + B ^ k * (dig m k * 2 ^ s) := by
  rw [mod_succ, Nat.add_mul, Nat.mul_assoc]
theorem shl_low (z s : Nat) (hs : s < 32) : z * 2 ^ s % B = 2 ^ s * (z % 2 ^ (32 - s)) := by
  rw [Nat.mul_comm z, ← two_split s hs, Nat.mul_mod_mul_left]
theorem shl_fit (z s c : Nat) (hs : s < 32) (hc : c < 2 ^ s) : c + z * 2 ^ s % B < B := by
  rw [shl_low z s hs]
  have h1 : z % 2 ^ (32 - s) + 1 ≤ 2 ^ (32 - s) := Nat.mod_lt _ (Nat.pow_pos (by decide))
  have h2 := Nat.mul_le_mul_left (2 ^ s) h1
  rw [two_split s hs, Nat.mul_add] at h2
  omega
theorem shl_new (m s k : Nat) (hs : s < 32) : dig (m % B ^ (k + 1) * 2 ^ s) k = dig (m % B ^ k * 2 ^ s) k + dig m k * 2 ^ s % B := by
  have hfit := shl_fit (dig m k) s _ hs (shl_top m s k hs)
  rw [shl_dig m s k hs, shl_split]
  unfold dig at hfit ⊢
  rw [Nat.add_mul_div_left _ _ (pB k), Nat.add_mod]
  have e : m % B ^ k * 2 ^ s / B ^ k % B = m % B ^ k * 2 ^ s / B ^ k := Nat.mod_eq_of_lt (by omega)
  rw [e, Nat.mod_eq_of_lt hfit]
theorem shl_over (m s k : Nat) (hs : s < 32) : dig (m % B ^ (k + 1) * 2 ^ s) (k + 1) = dig m k * 2 ^ s / B := by
  have hfit := shl_fit (dig m k) s _ hs (shl_top m s k hs)
  have hz := dig_lt m k
  have hp := two_le s hs
  rw [shl_split]
  generalize dig m k = z at *
  unfold dig
  rw [pB_succ, ← Nat.div_div_eq_div_mul, Nat.add_mul_div_left _ _ (pB k)]
  have e : (m % B ^ k * 2 ^ s / B ^ k + z * 2 ^ s) / B = z * 2 ^ s / B := by
    have h1 := Nat.mod_add_div (z * 2 ^ s) B
    generalize m % B ^ k * 2 ^ s / B ^ k = c at *
    rw [show c + z * 2 ^ s = (c + z * 2 ^ s % B) + B * (z * 2 ^ s / B) by omega, Nat.add_mul_div_left _ _ B_pos, Nat.div_eq_of_lt hfit, Nat.zero_add]
  rw [e]
  apply Nat.mod_eq_of_lt
  refine (Nat.div_lt_iff_lt_mul B_pos).2 ?_
  exact Nat.mul_lt_mul_of_lt_of_le hz (Nat.le_trans hp (by decide)) B_pos
theorem shl_old (m s k i : Nat) (hi : i < k) : dig (m % B ^ (k + 1) * 2 ^ s) i = dig (m % B ^ k * 2 ^ s) i := by
  rw [shl_split, dig_add_mul _ _ _ _ hi]

theorem bits_or_u32_nat (a b : Nat) (ha : a < 4294967296) (hb : b < 4294967296) :
    bits .or .u32 (a : Int) (b : Int) = ((a ||| b : Nat) : Int) := by
  have hx : a ||| b < 2 ^ 32 := Nat.or_lt_two_pow (by omega) (by omega)
  have h1 : (BitVec.ofInt 32 (a : Int)).toNat = a := by
    rw [BitVec.ofInt_natCast, BitVec.toNat_ofNat]; exact Nat.mod_eq_of_lt (by omega)
  have h2 : (BitVec.ofInt 32 (b : Int)).toNat = b := by
    rw [BitVec.ofInt_natCast, BitVec.toNat_ofNat]; exact Nat.mod_eq_of_lt (by omega)
  show IntKind.u32.wrap ((BitVec.ofInt 32 (a : Int) ||| BitVec.ofInt 32 (b : Int)).toNat : Int) = _
  rw [BitVec.toNat_or, h1, h2, IntKind.wrap_u32]
  omega

theorem shl_wrap (z s : Nat) (hz : z < 4294967296) (hs : s < 32) : IntKind.u64.wrap ((z : Int) * 2 ^ s) = ((z * 2 ^ s : Nat) : Int) := by
  have h1 := Nat.mul_le_mul (show z ≤ 4294967295 by omega) (two_le s hs)
  have e : ((z : Int) * 2 ^ s) = ((z * 2 ^ s : Nat) : Int) := by simp
  rw [wrap_u64, e]; omega
theorem shl_v1 (m s k : Nat) (hs : s < 32) : bits BinOp.or IntKind.u32 (dig (m % B ^ k * 2 ^ s) k : Int) (IntKind.u64.wrap ((dig m k : Int) * 2 ^ s) % 4294967296) = (dig (m % B ^ (k + 1) * 2 ^ s) k : Int) := by
  rw [shl_wrap _ s (dig_lt' m k) hs]
  have e : ((dig m k * 2 ^ s : Nat) : Int) % 4294967296 = ((dig m k * 2 ^ s % B : Nat) : Int) := by simp [B]
  have h1 := Nat.mod_lt (dig m k * 2 ^ s) B_pos
  rw [e, bits_or_u32_nat _ _ (dig_lt' _ _) h1, shl_new m s k hs, Nat.or_comm]
  have h2 := shl_top m s k hs
  rw [← shl_dig m s k hs] at h2
  rw [nat_join s _ _ (by rw [shl_low _ s hs]; exact Nat.mul_mod_right _ _) h2, Nat.add_comm]
theorem shl_v2 (m s k : Nat) (hs : s < 32) : IntKind.u64.wrap ((dig m k : Int) * 2 ^ s) / 4294967296 % 4294967296 = (dig (m % B ^ (k + 1) * 2 ^ s) (k + 1) : Int) := by
  rw [shl_wrap _ s (dig_lt' m k) hs]
  have h1 := shl_over m s k hs
  have h2 := dig_lt' (m % B ^ (k + 1) * 2 ^ s) (k + 1)
  rw [h1] at h2 ⊢
  simp only [B] at h2 ⊢
  omega

theorem shlRow_step {w : World} {b n m s k : Nat} {v1 v2 : Int} (_hs : s < 32) (h : w.rowIs b 51 n (shlRow m s k)) (h1 : v1 = (dig (m % B ^ (k + 1) * 2 ^ s) k : Nat)) (h2 : v2 = (dig (m % B ^ (k + 1) * 2 ^ s) (k + 1) : Nat)) :
    ((w.setCell ⟨b, k, none⟩ (.int .u32 v1)).setCell ⟨b, k + 1, none⟩ (.int .u32 v2)).rowIs b 51 n (shlRow m s (k + 1)) := by
  refine ((h.set k (.int .u32 v1)).set (k + 1) (.int .u32 v2)).congr fun i hi => ?_
  simp only [shlRow]
  by_cases e1 : i = k + 1
  · subst e1; simp [h2]
  · rw [if_neg e1]
    by_cases e2 : i = k
    · subst e2; simp [h1]
    · rw [if_neg e2]
      by_cases e3 : i < k
      · rw [if_pos (by omega), if_pos (by omega), shl_old m s k i e3]
      · rw [if_neg (by omega), if_neg (by omega)]

set_option maxHeartbeats 1000000 in
theorem shl_any {N : Nat} (a : Option Addr) (n cap m s : Nat) (w : World) (h : Nt N w a n cap m) (hl : n ≤ 1099511627776) (hs : s < 32) :
    Calls Tryd.prog 92 #[.slice a n cap, .int .i64 s] w fun e w' => e = .returned (.slice (some ⟨w.heap.size, 0, none⟩) (n + 1) (n + 1)) ∧ w'.rowIs w.heap.size 51 (n + 1) (fun i => .int .u32 (dig (m * 2 ^ s) i)) ∧ Below w.heap.size w w' := by
  have H := Lib.hid h
  clear h
  have hmk := run_make_row' (P := Tryd.prog) 26 51 (.int .u32 0) 4 Tryd.underNat Tryd.infoU32 rfl .i64 .i64 (n + 1) (by omega) (by omega)
  have ec : ((n + 1 : Nat) : Int) = (n : Int) + 1 := by omega
  rw [ec] at hmk
  clear ec
  go_enter Tryd.func92, Tryd.ntmps92
  go_wp2_with fail
  go_loopw [15] (fun i wr => ∃ k : Nat, k ≤ n ∧ i = .int .i64 k ∧ wr.rowIs w.heap.size 51 (n + 1) (shlRow m s k) ∧ Below w.heap.size w wr) (fun i _ => n - (intOf i).toNat)
  case atStart => exact ⟨0, Nat.zero_le _, rfl, (World.rowIs_made _ _ _ _).congr (fun i hi => by simp [shlRow, Nat.mod_one, dig_zero]), (Below.refl _ _).alloc (Nat.le_refl _) _⟩
  case round =>
    obtain ⟨k, hk, rfl, hrow, hbel⟩ := hrel
    by_cases hkn : k < n
    · obtain ⟨b1, o1, rfl, _, hc1⟩ := H.out.2.2.2 (by omega)
      have hcell1 := (hbel.cell (p := ⟨b1, o1 + k, none⟩) (World.block_lt_of_cell? w _ (hc1 k hkn))).trans (hc1 k hkn)
      clear hc1
      have hput : wr.cell? ⟨w.heap.size, k, none⟩ = some (.int .u32 (dig (m % B ^ k * 2 ^ s) k)) := by
        have := hrow.cell (i := k) (by omega)
        simpa [shlRow] using this
      have hfz := hrow.frozen k
      have hput2 : ∃ v, wr.cell? ⟨w.heap.size, k + 1, none⟩ = some v := ⟨_, hrow.cell (i := k + 1) (by omega)⟩
      obtain ⟨v2, hput2⟩ := hput2
      have hfz2 := hrow.frozen (k + 1)
      have d1 := dig_lt' m k
      have d2 := dig_lt' (m % B ^ k * 2 ^ s) k
      have HR := Lib.hid hrow
      have HBel := Lib.hid hbel
      clear hrow hbel hmk
      go_wp2
      go_roundw
      case rel => exact ⟨k + 1, by omega, by go_num, shlRow_step hs HR.out (shl_v1 m s k hs) (shl_v2 m s k hs), (HBel.out.setCell (Nat.le_refl _) _).setCell (Nat.le_refl _) _⟩
      case measure => simp [intOf]; omega
    · obtain rfl : k = n := by omega
      have HE := Lib.hid (Nat.mod_eq_of_lt H.out.2.2.1)
      have HR := Lib.hid hrow
      have HBel := Lib.hid hbel
      clear hrow hbel hmk
      go_wp2_with fail
      go_ret
      refine ⟨rfl, HR.out.congr fun i hi => ?_, HBel.out⟩
      simp only [shlRow]
      rw [HE.out, if_pos (by omega)]

end Go.Proofs.YtnillajhhimeiaaDoor
