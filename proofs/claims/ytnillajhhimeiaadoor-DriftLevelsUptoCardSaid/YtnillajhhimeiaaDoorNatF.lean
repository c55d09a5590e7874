/- Contract of nat.divLimb: for all numbers of at most 2^40 limbs and every limb that is not 0. -/
import Derived.Test.YtnillajhhimeiaaDoorNatC
import Derived.Laws.Bits64b
namespace Go.Proofs.YtnillajhhimeiaaDoor
open Go.RowKit

def divRow (s k i : Nat) : Value := .int .u32 (if k ≤ i then dig s i else 0 : Nat)
theorem divRow_step {w : World} {b n s k : Nat} {v : Int} (h : w.rowIs b 51 n (divRow s (k + 1))) (hv : v = (dig s k : Nat)) :
    (w.setCell ⟨b, k, none⟩ (.int .u32 v)).rowIs b 51 n (divRow s k) := by
  refine (h.set k (.int .u32 v)).congr fun i hi => ?_
  simp only [divRow]
  by_cases h1 : i = k
  · subst h1; simp [hv]
  · rw [if_neg h1]
    by_cases h2 : k ≤ i
    · rw [if_pos h2, if_pos (by omega)]
    · rw [if_neg h2, if_neg (by omega)]

/-- the rest above place k -/
def rst (m d k : Nat) : Nat := m / B ^ k % d
theorem div_top (m k : Nat) : m / B ^ k = B * (m / B ^ (k + 1)) + dig m k := by
  unfold dig
  rw [pB_succ, ← Nat.div_div_eq_div_mul]
  have := Nat.div_add_mod (m / B ^ k) B
  omega
theorem rst_step (m d k : Nat) (_hd : 0 < d) : rst m d k = (rst m d (k + 1) * B + dig m k) % d := by
  unfold rst
  rw [div_top, Nat.mul_comm B, Nat.add_mod, Nat.mul_mod]
  conv => rhs; rw [Nat.add_mod, Nat.mul_mod]
  simp only [Nat.mod_mod]
theorem quo_step (m d k : Nat) (hd : 0 < d) (_hdB : d ≤ B) : dig (m / d) k = (rst m d (k + 1) * B + dig m k) / d := by
  unfold rst
  have e : dig (m / d) k = (m / B ^ k) / d % B := by unfold dig; rw [Nat.div_div_eq_div_mul, Nat.div_div_eq_div_mul, Nat.mul_comm]
  rw [e, div_top]
  generalize m / B ^ (k + 1) = y
  have hy := Nat.div_add_mod y d
  have hdl := dig_lt m k
  generalize hr : y % d = r at *
  generalize y / d = q at *
  have hrd : r < d := by rw [← hr]; exact Nat.mod_lt _ hd
  have e2 : B * y + dig m k = (r * B + dig m k) + d * (B * q) := by
    rw [← hy, Nat.mul_add]
    have : B * (d * q) = d * (B * q) := by simp only [Nat.mul_left_comm]
    rw [Nat.mul_comm B r]; omega
  rw [e2, Nat.add_mul_div_left _ _ hd]
  have hlt : (r * B + dig m k) / d < B := by
    refine (Nat.div_lt_iff_lt_mul hd).2 ?_
    have : (r + 1) * B ≤ d * B := Nat.mul_le_mul_right _ hrd
    rw [Nat.add_mul, Nat.one_mul] at this
    rw [Nat.mul_comm B d]; omega
  rw [Nat.add_mul_mod_self_left, Nat.mod_eq_of_lt hlt]
theorem rst_lt (m d k : Nat) (hd : 0 < d) : rst m d k < d := Nat.mod_lt _ hd
theorem rst_top (m d n : Nat) (hm : m < B ^ n) (_hd : 0 < d) : rst m d n = 0 := by
  unfold rst; rw [Nat.div_eq_of_lt hm]; exact Nat.zero_mod _
theorem rst_zero (m d : Nat) : rst m d 0 = m % d := by simp [rst]

theorem or_nat (x y : Nat) (hy : y < 4294967296) : (x * 4294967296) ||| y = x * 4294967296 + y := by
  have := Nat.shiftLeft_add_eq_or_of_lt (i := 32) (b := y) (by simpa using hy) x
  rw [Nat.shiftLeft_eq] at this
  exact this.symm
theorem or_u64 (x y : Nat) (hx : x < 4294967296) (hy : y < 4294967296) : bits BinOp.or IntKind.u64 ((x : Int) * 4294967296) (y : Int) = (x : Int) * 4294967296 + (y : Int) := by
  have e : ((x : Int) * 4294967296) = ((x * 4294967296 : Nat) : Int) := by omega
  rw [e, bits_or_u64_nat _ _ (by omega) (by omega), or_nat x y hy]
  omega
theorem quo_int' (m d k : Nat) (hd : 0 < d) (hdB : d < 4294967296) : ((rst m d (k + 1) : Int) * 4294967296 + (dig m k : Int)) / (d : Int) = (dig (m / d) k : Nat) := by
  have h := quo_step m d k hd (by simp only [B]; omega)
  rw [h]
  simp [B]
theorem quo_int (m d k : Nat) (hd : 0 < d) (hdB : d < 4294967296) : ((rst m d (k + 1) : Int) * 4294967296 + (dig m k : Int)) / (d : Int) % 4294967296 = (dig (m / d) k : Nat) := by
  rw [quo_int' m d k hd hdB]
  have h2 := dig_lt' (m / d) k
  omega
theorem rst_int (m d k : Nat) (hd : 0 < d) : ((rst m d (k + 1) : Int) * 4294967296 + (dig m k : Int)) % (d : Int) = (rst m d k : Nat) := by
  rw [rst_step m d k hd]; simp [B]

set_option maxHeartbeats 1000000 in
theorem divLimb_any {N : Nat} (a : Option Addr) (n cap m d : Nat) (w : World) (h : Nt N w a n cap m) (hl : n ≤ 1099511627776) (hd : 0 < d) (hdB : d < 4294967296) :
    Calls Tryd.prog 65 #[.slice a n cap, .int .u32 d] w fun e w' => ∃ r cr, e = .returned (.tuple #[.slice r (nlen (m / d)) cr, .int .u32 (m % d : Nat)]) ∧ Nt N w' r (nlen (m / d)) cr (m / d) ∧ Below w.heap.size w w' := by
  have H := Lib.hid h
  clear h
  have hmk := run_make_row' (P := Tryd.prog) 26 51 (.int .u32 0) 4 Tryd.underNat Tryd.infoU32 rfl .i64 .i64 n (by omega) (by omega)
  go_enter Tryd.func65, Tryd.ntmps65
  go_wp2_with fail
  go_loopw [7, 8] (fun c i wr => ∃ k : Nat, k ≤ n ∧ i = .int .i64 ((k : Int) - 1) ∧ c = .int .u64 (rst m d k) ∧ wr.rowIs w.heap.size 51 n (divRow (m / d) k) ∧ Below w.heap.size w wr) (fun _ i _ => (intOf i + 1).toNat)
  case atStart => exact ⟨n, Nat.le_refl _, rfl, by rw [rst_top m d n H.out.2.2.1 hd]; rfl, (World.rowIs_made _ _ _ _).congr (fun i hi => by simp only [divRow]; rw [if_neg (by omega)]; rfl), (Below.refl _ _).alloc (Nat.le_refl _) _⟩
  case round =>
    obtain ⟨k, hk, rfl, rfl, hrow, hbel⟩ := hrel
    have d3 := rst_lt m d k hd
    by_cases hk0 : 0 < k
    · obtain ⟨b1, o1, rfl, _, hc1⟩ := H.out.2.2.2 (by omega)
      have hcell1 := (hbel.cell (p := ⟨b1, o1 + (k - 1), none⟩) (World.block_lt_of_cell? w _ (hc1 (k - 1) (by omega)))).trans (hc1 (k - 1) (by omega))
      clear hc1
      have hput := hrow.cell (i := k - 1) (by omega)
      have hfz := hrow.frozen (k - 1)
      have hz1 : ((k : Int) - 1).toNat = k - 1 := by omega
      have hh1 : (0 : Int) ≤ (k : Int) - 1 := by omega
      have d1 := dig_lt' m (k - 1)
      have hor := or_u64 (rst m d k) (dig m (k - 1)) (by omega) d1
      have HR := Lib.hid hrow
      have HBel := Lib.hid hbel
      clear hrow hbel hmk
      go_wp2
      go_roundw
      case rel =>
        have e : k - 1 + 1 = k := by omega
        have q1 := quo_int m d (k - 1) hd hdB
        have q2 := rst_int m d (k - 1) hd
        rw [e] at q1 q2
        exact ⟨k - 1, by omega, i64_congr (by omega), u64_congr q2, divRow_step (by rw [e]; exact HR.out) q1, HBel.out.setCell (Nat.le_refl _) _⟩
      case measure => simp [intOf]; omega
    · obtain rfl : k = 0 := by omega
      have HL := Lib.hid (Nat.lt_of_le_of_lt (Nat.div_le_self m d) H.out.2.2.1)
      have HR := Lib.hid hrow
      have HBel := Lib.hid hbel
      have HZ := Lib.hid (rst_zero m d)
      clear hrow hbel hmk
      go_wp2_with fail
      have hnt := Nt.of_row (N := N) HR.out (by unfold maxLen; omega) HL.out (fun i hi => by simp [divRow])
      refine (trim_any _ _ _ _ _ hnt).mono ?_
      rintro e w' ⟨rfl, rfl⟩
      have HN := Lib.hid hnt.trim
      clear hnt
      go_wp2_with fail
      go_ret2
      rw [HZ.out]
      exact ⟨_, _, rfl, HN.out, HBel.out⟩

end Go.Proofs.YtnillajhhimeiaaDoor
