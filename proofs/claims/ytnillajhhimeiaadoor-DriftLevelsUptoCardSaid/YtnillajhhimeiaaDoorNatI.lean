/- Contracts of nat.subtract and nat.addBack: the part of a row from j on, n + 1 limbs, less digit times the divisor; plus the divisor. -/
import Derived.Test.YtnillajhhimeiaaDoorNatH
import Derived.Test.YtnillajhhimeiaaDoorNatD
namespace Go.Proofs.YtnillajhhimeiaaDoor
open Go.RowKit

/-- the carry of a product with one limb -/
def mlc (q d k : Nat) : Nat := q * (d % B ^ k) / B ^ k
theorem mlc_zero (q d : Nat) : mlc q d 0 = 0 := by simp [mlc, Nat.mod_one]
theorem mlc_succ (q d k : Nat) : mlc q d (k + 1) = (q * dig d k + mlc q d k) / B := by
  unfold mlc
  have e : q * (d % B ^ (k + 1)) = q * (d % B ^ k) + B ^ k * (q * dig d k) := by
    rw [mod_succ, Nat.mul_add]; congr 1; simp only [Nat.mul_left_comm]
  rw [e, pB_succ, ← Nat.div_div_eq_div_mul, Nat.add_mul_div_left _ _ (pB k), Nat.add_comm]
theorem mlc_dig (q d k : Nat) : dig (q * d) k = (q * dig d k + mlc q d k) % B := by
  have e : q * d = q * (d % B ^ k) + B ^ k * (q * (d / B ^ k)) := by
    have h := Nat.mod_add_div d (B ^ k)
    conv => lhs; rw [← h]
    rw [Nat.mul_add]; congr 1; simp only [Nat.mul_left_comm]
  unfold dig mlc
  rw [e, Nat.add_mul_div_left _ _ (pB k), Nat.add_comm]
  conv => rhs; rw [Nat.add_mod, Nat.mul_mod]
  rw [Nat.add_mod, Nat.mul_mod]
  simp only [Nat.mod_mod]
theorem mlc_le (q d k : Nat) : mlc q d k ≤ q := by
  unfold mlc
  have h1 : q * (d % B ^ k) ≤ q * B ^ k := Nat.mul_le_mul_left _ (Nat.le_of_lt (Nat.mod_lt _ (pB k)))
  exact Nat.le_trans (Nat.div_le_div_right h1) (by rw [Nat.mul_div_cancel _ (pB k)]; exact Nat.le_refl _)
theorem mlc_end (q d n : Nat) (hd : d < B ^ n) (hq : q < B) : mlc q d n = dig (q * d) n := by
  unfold mlc dig
  rw [Nat.mod_eq_of_lt hd]
  refine (Nat.mod_eq_of_lt ?_).symm
  exact (Nat.div_lt_iff_lt_mul (pB n)).2 (Nat.mul_lt_mul_of_lt_of_le hq (Nat.le_of_lt hd) (pB n))
theorem qd_lt (q d n : Nat) (hd : d < B ^ n) (hq : q < B) : q * d < B ^ (n + 1) := by
  rw [pB_succ, Nat.mul_comm (B ^ n)]
  exact Nat.mul_lt_mul_of_lt_of_le hq (Nat.le_of_lt hd) (pB n)

/-- a difference below B^(n+1), with B^(n+1) added -/
theorem bor_up (a b n k : Nat) (hk : k ≤ n) : bor (a + B ^ n) b k = bor a b k := by
  unfold bor
  have : B ^ n = B ^ k * B ^ (n - k) := by rw [← Nat.pow_add]; congr 1; omega
  rw [this, Nat.add_mul_mod_self_left]
theorem dig_up (a n k : Nat) (hk : k < n) : dig (a + B ^ n) k = dig a k := by
  have := dig_add_mul a 1 k n hk
  rwa [Nat.mul_one] at this
theorem subm_dig (a b n k : Nat) (hk : k < n) (hb : b < B ^ n) : dig (a + B ^ n - b) k + dig b k + bor a b k = dig a k + B * (if dig a k < dig b k + bor a b k then 1 else 0) := by
  have h := dig_sub (a + B ^ n) b k (by omega)
  rwa [dig_up a n k hk, bor_up a b n k (by omega)] at h
theorem subm_int1 (a b n k : Nat) (hk : k < n) (hb : b < B ^ n) : IntKind.u64.wrap (IntKind.u64.wrap ((dig a k : Int) - (dig b k : Int)) - (bor a b k : Int)) % 4294967296 = (dig (a + B ^ n - b) k : Int) := by
  rw [wrap_u64, wrap_u64]
  have h1 := dig_lt' a k
  have h2 := dig_lt' b k
  have h3 := bor_le a b k
  have h4 := dig_lt' (a + B ^ n - b) k
  have h5 := subm_dig a b n k hk hb
  generalize dig (a + B ^ n - b) k = x at *
  simp only [B_eq] at h5
  split at h5 <;> omega
theorem subm_int2 (a b k : Nat) : IntKind.u64.wrap (IntKind.u64.wrap ((dig a k : Int) - (dig b k : Int)) - (bor a b k : Int)) / 9223372036854775808 = (bor a b (k + 1) : Int) := by
  rw [bor_int, wrap_u64, wrap_u64]
  have h1 := dig_lt' a k
  have h2 := dig_lt' b k
  have h3 := bor_le a b k
  split <;> omega
theorem bor_end (a b n : Nat) (ha : a < B ^ n) (hb : b < B ^ n) : bor a b n = if a < b then 1 else 0 := by
  unfold bor; rw [Nat.mod_eq_of_lt ha, Nat.mod_eq_of_lt hb]

def subRow (F : Nat → Value) (j P k i : Nat) : Value := if j ≤ i ∧ i < j + k then .int .u32 (dig P (i - j)) else F i
theorem subRow_zero (F : Nat → Value) (j P i : Nat) : subRow F j P 0 i = F i := by unfold subRow; rw [if_neg (by omega)]
theorem subRow_at (F : Nat → Value) (j P k : Nat) : subRow F j P k (j + k) = F (j + k) := by unfold subRow; rw [if_neg (by omega)]
theorem subRow_step {w : World} {b L j P k : Nat} {F : Nat → Value} {v : Int} (h : w.rowIs b 51 L (subRow F j P k)) (hv : v = (dig P k : Nat)) :
    (w.setCell ⟨b, j + k, none⟩ (.int .u32 v)).rowIs b 51 L (subRow F j P (k + 1)) := by
  refine (h.set (j + k) (.int .u32 v)).congr fun i hi => ?_
  simp only [subRow]
  by_cases h1 : i = j + k
  · subst h1; rw [if_pos rfl, if_pos (by omega), hv]; simp
  · rw [if_neg h1]
    by_cases h2 : j ≤ i ∧ i < j + k
    · rw [if_pos h2, if_pos (by omega)]
    · rw [if_neg h2, if_neg (by omega)]

/-- a store into row b -/
theorem grown_set (w : World) (b o : Nat) (v : Value) : w.grownBy (w.setCell ⟨b, o, none⟩ v) (some b) :=
  ⟨rfl, rfl, rfl, by simp [World.setCell], fun k _ hne => Below.heap_setCell _ _ _ _ (fun e => hne (by rw [e]))⟩
theorem grown_trans {a b c : World} {r : Option Nat} (h : a.grownBy b r) (k : b.grownBy c r) : a.grownBy c r :=
  ⟨k.os.trans h.os, k.tape.trans h.tape, k.output.trans h.output, Nat.le_trans h.size k.size, fun i hi hne => (k.block i (by have := h.size; omega) hne).trans (h.block i hi hne)⟩
theorem grown_refl (a : World) (r : Option Nat) : a.grownBy a r := ⟨rfl, rfl, rfl, Nat.le_refl _, fun _ _ _ => rfl⟩

theorem mlc_int1 (q d k : Nat) : ((q : Int) * (dig d k : Int) + (mlc q d k : Int)) / 4294967296 = (mlc q d (k + 1) : Int) := by
  rw [mlc_succ]; simp [B]
theorem mlc_int2 (q d k : Nat) : ((q : Int) * (dig d k : Int) + (mlc q d k : Int)) % 4294967296 = (dig (q * d) k : Int) := by
  rw [mlc_dig]; simp [B]

theorem neg_test (a b k : Nat) (h : bor a b (k + 1) = if a < b then 1 else 0) : (IntKind.u64.wrap (IntKind.u64.wrap ((dig a k : Int) - (dig b k : Int)) - (bor a b k : Int)) / 9223372036854775808 != 0) = decide (a < b) := by
  rw [subm_int2, h]
  by_cases hlt : a < b <;> simp [hlt]

set_option maxHeartbeats 1000000 in
theorem subtract_any (rb j L cap db n cd p d q : Nat) (F : Nat → Value) (w : World) (hrow : w.rowIs rb 51 L F) (hF : ∀ i, i ≤ n → F (j + i) = .int .u32 (dig p i)) (hL : j + n < L) (hp : p < B ^ (n + 1))
    (hd : d < B ^ n) (hdc : ∀ i, i < n → w.cell? ⟨db, i, none⟩ = some (.int .u32 (dig d i))) (hne : db ≠ rb) (hq : q < 4294967296) (hn : n ≤ 1099511627776) (hn0 : 0 < n) :
    Calls Tryd.prog 94 #[.slice (some ⟨rb, j, none⟩) (n + 1) cap, .slice (some ⟨db, 0, none⟩) n cd, .int .u64 q] w fun e w' =>
      e = .returned (.bool (decide (p < q * d))) ∧ w'.rowIs rb 51 L (subRow F j (p + B ^ (n + 1) - q * d) (n + 1)) ∧ w.grownBy w' (some rb) := by
  have HF := Lib.hid hF
  have HD := Lib.hid hdc
  have HP := Lib.hid hp
  have Hd := Lib.hid hd
  have HR0 := Lib.hid hrow
  have HQ := Lib.hid (qd_lt q d n hd hq)
  clear hF hdc hp hd hrow
  go_enter Tryd.func94, Tryd.ntmps94
  go_wp2_with fail
  go_loopw [7, 8, 16] (fun c bo i wr => ∃ k : Nat, k ≤ n ∧ i = .int .i64 k ∧ c = .int .u64 (mlc q d k) ∧ bo = .int .u64 (bor p (q * d) k) ∧ wr.rowIs rb 51 L (subRow F j (p + B ^ (n + 1) - q * d) k) ∧ w.grownBy wr (some rb)) (fun _ _ i _ => n - (intOf i).toNat)
  case atStart => exact ⟨0, Nat.zero_le _, rfl, by rw [mlc_zero]; rfl, by rw [bor_zero]; rfl, HR0.out.congr (fun i _ => (subRow_zero _ _ _ _).symm), grown_refl _ _⟩
  case round =>
    obtain ⟨k, hk, rfl, rfl, rfl, hrow, hgr⟩ := hrel
    have d2 := mlc_le q d k
    have d3 := bor_le p (q * d) k
    have hput : wr.cell? ⟨rb, j + k, none⟩ = some (.int .u32 (dig p k)) := by
      rw [hrow.cell (i := j + k) (by omega), subRow_at, HF.out k hk]
    have hfz := hrow.frozen (j + k)
    have d1 := dig_lt' p k
    by_cases hkn : k < n
    · have hcd : wr.cell? ⟨db, k, none⟩ = some (.int .u32 (dig d k)) := hgr.cell (HD.out k hkn) (by simpa using hne)
      have d4 := dig_lt' d k
      have d5 := dd_le _ _ hq d4
      have hm1 := mlc_int2 q d k
      have d6 := dig_lt' (q * d) k
      have HR := Lib.hid hrow
      have HG := Lib.hid hgr
      clear hrow hgr
      go_wp2
      go_roundw
      case rel => exact ⟨k + 1, by omega, by go_num, u64_congr (mlc_int1 q d k), u64_congr (subm_int2 p (q * d) k), subRow_step HR.out (subm_int1 p (q * d) (n + 1) k (by omega) HQ.out), grown_trans HG.out (grown_set _ _ _ _)⟩
      case measure => simp [intOf]; omega
    · obtain rfl : k = n := by omega
      have HE := Lib.hid (mlc_end q d k Hd.out (by simp only [B]; exact hq))
      have HB := Lib.hid (bor_end p (q * d) (k + 1) HP.out HQ.out)
      have HR := Lib.hid hrow
      have HG := Lib.hid hgr
      clear hrow hgr
      rw [HE.out]
      have d6 := dig_lt' (q * d) k
      clear d2
      go_wp2_with fail
      go_ret
      refine ⟨congrArg (fun b => Ending.returned (Value.bool b)) (neg_test _ _ _ HB.out), subRow_step HR.out (subm_int1 p (q * d) (k + 1) k (by omega) HQ.out), grown_trans HG.out (grown_set _ _ _ _)⟩


theorem adb_int (a b k : Nat) : ((dig a k : Int) + (dig b k : Int) + (car a b k : Int)) / 4294967296 = (car a b (k + 1) : Int) := by
  have h := car_succ a b k; simp only [B] at h; omega
theorem adb_dig (a b k : Nat) : ((dig a k : Int) + (dig b k : Int) + (car a b k : Int)) % 4294967296 = (dig (a + b) k : Int) := by
  have h := dig_add a b k; simp only [B] at h; omega
theorem adb_top (a b n : Nat) (hb : b < B ^ n) : ((dig a n : Int) + (car a b n : Int)) % 4294967296 = (dig (a + b) n : Int) := by
  have h := dig_add a b n
  rw [dig_high b n hb] at h
  simp only [B] at h; omega

set_option maxHeartbeats 1000000 in
theorem addBack_any (rb j L cap db n cd p d : Nat) (F : Nat → Value) (w : World) (hrow : w.rowIs rb 51 L F) (hF : ∀ i, i ≤ n → F (j + i) = .int .u32 (dig p i)) (hL : j + n < L)
    (hd : d < B ^ n) (hdc : ∀ i, i < n → w.cell? ⟨db, i, none⟩ = some (.int .u32 (dig d i))) (hne : db ≠ rb) (hn : n ≤ 1099511627776) (hn0 : 0 < n) :
    Calls Tryd.prog 95 #[.slice (some ⟨rb, j, none⟩) (n + 1) cap, .slice (some ⟨db, 0, none⟩) n cd] w fun e w' =>
      (∃ v, e = .returned v) ∧ w'.rowIs rb 51 L (subRow F j (p + d) (n + 1)) ∧ w.grownBy w' (some rb) := by
  have HF := Lib.hid hF
  have HD := Lib.hid hdc
  have Hd := Lib.hid hd
  have HR0 := Lib.hid hrow
  clear hF hdc hd hrow
  go_enter Tryd.func95, Tryd.ntmps95
  go_wp2_with fail
  go_loopw [4, 10] (fun c i wr => ∃ k : Nat, k ≤ n ∧ i = .int .i64 k ∧ c = .int .u64 (car p d k) ∧ wr.rowIs rb 51 L (subRow F j (p + d) k) ∧ w.grownBy wr (some rb)) (fun _ i _ => n - (intOf i).toNat)
  case atStart => exact ⟨0, Nat.zero_le _, rfl, by rw [car_zero]; rfl, HR0.out.congr (fun i _ => (subRow_zero _ _ _ _).symm), grown_refl _ _⟩
  case round =>
    obtain ⟨k, hk, rfl, rfl, hrow, hgr⟩ := hrel
    have d3 := car_le p d k
    have hput : wr.cell? ⟨rb, j + k, none⟩ = some (.int .u32 (dig p k)) := by
      rw [hrow.cell (i := j + k) (by omega), subRow_at, HF.out k hk]
    have hfz := hrow.frozen (j + k)
    have d1 := dig_lt' p k
    by_cases hkn : k < n
    · have hcd : wr.cell? ⟨db, k, none⟩ = some (.int .u32 (dig d k)) := hgr.cell (HD.out k hkn) (by simpa using hne)
      have d4 := dig_lt' d k
      have HR := Lib.hid hrow
      have HG := Lib.hid hgr
      clear hrow hgr
      go_wp2
      go_roundw
      case rel => exact ⟨k + 1, by omega, by go_num, u64_congr (adb_int p d k), subRow_step HR.out (adb_dig p d k), grown_trans HG.out (grown_set _ _ _ _)⟩
      case measure => simp [intOf]; omega
    · obtain rfl : k = n := by omega
      have HR := Lib.hid hrow
      have HG := Lib.hid hgr
      clear hrow hgr
      go_wp2_with fail
      go_end0
      exact ⟨⟨_, rfl⟩, subRow_step HR.out (adb_top p d k Hd.out), grown_trans HG.out (grown_set _ _ _ _)⟩

end Go.Proofs.YtnillajhhimeiaaDoor
