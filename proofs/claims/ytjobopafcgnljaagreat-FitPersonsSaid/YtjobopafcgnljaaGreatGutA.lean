import Derived.Test.YtjobopafcgnljaaGreatNulA
namespace Go.Proofs.YtjobopafcgnljaaGreat
open Go.RowKit
def Sl (w : World) (a : Option Addr) (n cap : Nat) (V : Nat → Value) : Prop :=
 n ≤ cap ∧ cap ≤ maxLen ∧ (0 < n → ∃ b off, a = some ⟨b, off, none⟩ ∧ ∀ i, i < n → w.cell? ⟨b, off + i, none⟩ = some (V i))
def wrN (x : Nat → Bool) : Nat → Nat
 | 0 => 0
 | k + 1 => wrN x k + if x k then 0 else 1
def erN (x : Nat → Bool) : Nat → Nat
 | 0 => 0
 | k + 1 => erN x k + if x k then wrN x k else 0
theorem wrN_le (x : Nat → Bool) : ∀ k, wrN x k ≤ k
 | 0 => Nat.le_refl _
 | k + 1 => by have := wrN_le x k; simp only [wrN]; split <;> omega
theorem erN_le (x : Nat → Bool) : ∀ k, erN x k ≤ k * k
 | 0 => Nat.le_refl _
 | k + 1 => by
  have := erN_le x k; have h2 := wrN_le x k; simp only [erN, Nat.mul_add, Nat.add_mul]; split <;> omega
set_option maxHeartbeats 400000 in
theorem gut_any (a : Option Addr) (n cap : Nat) (x : Nat → Bool) (w : World) (hn : n ≤ 20) (hs : Sl w a n cap (fun i => .bool (x i))) :
  Calls Tryz.prog 26 #[.slice a n cap] w fun e w' =>
   e = .returned (.tuple #[.int .i64 (erN x n), .int .i64 0]) ∧ w = w' := by
 obtain ⟨_, _, hc0⟩ := hs
 have hA := Lib.hid hc0
 clear hc0
 go_enter Tryz.func26, Tryz.ntmps26
 go_wp2
 go_loop [4, 5, 13] (fun n' wg i => ∃ k : Nat, k ≤ n ∧ i = .int .i64 k ∧ n' = .int .i64 (erN x k) ∧ wg = .int .i64 (wrN x k)) (fun _ _ i => n - (intOf i).toNat)
 case atStart => exact ⟨0, Nat.zero_le _, rfl, rfl, rfl⟩
 case round =>
  obtain ⟨k, hk, rfl, rfl, rfl⟩ := hrel
  by_cases hlt : k < n
  ·obtain ⟨b, off, rfl, hc⟩ := hA.out (by omega)
   have hcell := hc k hlt
   clear hc
   have h1 := wrN_le x k
   have h2 := erN_le x k
   have h3 : k * k ≤ 20 * 20 := Nat.mul_le_mul (by omega) (by omega)
   cases hb : x k
   all_goals
    rw [hb] at hcell
    have Hb := Lib.hid hb
    clear hb
    go_wp2
    go_round
    case rel => exact ⟨k + 1, by omega, by go_num, by simp only [erN, Hb.out]; simp, by simp only [wrN, Hb.out]; simp⟩
    case measure => simp [intOf]; omega
  ·obtain rfl : k = n := by omega
   go_wp2
   go_ret2
   exact ⟨rfl, rfl⟩
def inN (x : Nat → Bool) (i : Nat) : Nat → Nat
 | 0 => 0
 | k + 1 => inN x i k + if i < k ∧ x i = false ∧ x k = true then 1 else 0
def outN (x : Nat → Bool) (n : Nat) : Nat → Nat
 | 0 => 0
 | i + 1 => outN x n i + inN x i n
theorem inN_low (x : Nat → Bool) (i : Nat) : ∀ k, k ≤ i + 1 → inN x i k = 0
 | 0, _ => rfl
 | k + 1, h => by simp only [inN]; rw [inN_low x i k (by omega), if_neg (by omega)]
theorem inN_le (x : Nat → Bool) (i : Nat) : ∀ k, inN x i k ≤ k
 | 0 => Nat.le_refl _
 | k + 1 => by have := inN_le x i k; simp only [inN]; split <;> omega
theorem outN_le (x : Nat → Bool) (n : Nat) : ∀ i, outN x n i ≤ i * n
 | 0 => by simp [outN]
 | i + 1 => by have := outN_le x n i; have h2 := inN_le x i n; simp only [outN, Nat.add_mul]; omega
theorem outN_step (x : Nat → Bool) (n : Nat) : ∀ i, i ≤ n → outN x (n + 1) i = outN x n i + if x n then wrN x i else 0
 | 0, _ => by simp [outN, wrN]
 | i + 1, h => by
  simp only [outN, wrN, inN]; rw [outN_step x n i (by omega)]
  have hlt : i < n := by omega
  cases hn : x n <;> cases hi : x i <;> simp [hlt] <;> omega
theorem outN_er (x : Nat → Bool) : ∀ n, outN x n n = erN x n
 | 0 => rfl
 | n + 1 => by
  simp only [outN, erN]; rw [inN_low x n (n + 1) (Nat.le_refl _), outN_step x n n (Nat.le_refl _), outN_er x n]; rfl
set_option maxHeartbeats 400000 in
theorem rgut_any (a : Option Addr) (n cap : Nat) (x : Nat → Bool) (w : World) (hn : n ≤ 20) (hs : Sl w a n cap (fun i => .bool (x i))) :
  Calls Tryz.prog 35 #[.slice a n cap] w fun e w' =>
   e = .returned (.tuple #[.int .i64 (erN x n), .int .i64 0]) ∧ w = w' := by
 obtain ⟨_, _, hc0⟩ := hs
 have hA := Lib.hid hc0
 clear hc0
 go_enter Tryz.func35, Tryz.ntmps35
 go_wp2
 go_loop [4, 5] (fun n' i => ∃ k : Nat, k ≤ n ∧ i = .int .i64 k ∧ n' = .int .i64 (outN x n k)) (fun _ i => n - (intOf i).toNat)
 case atStart => exact ⟨0, Nat.zero_le _, rfl, rfl⟩
 case round =>
  obtain ⟨k, hk, rfl, rfl⟩ := hrel
  have h2 := outN_le x n k
  have h3 : k * n ≤ 20 * 20 := Nat.mul_le_mul (by omega) (by omega)
  by_cases hlt : k < n
  ·obtain ⟨b, off, rfl, hc⟩ := hA.out (by omega)
   have hcell := hc k hlt
   have HC := Lib.hid hc
   clear hc
   go_wp2
   go_loop [4, 6] (fun n' j => ∃ l : Nat, k < l ∧ l ≤ n ∧ j = .int .i64 l ∧ n' = .int .i64 (outN x n k + inN x k l : Nat)) (fun _ i => n - (intOf i).toNat)
   case atStart => exact ⟨k + 1, by omega, by omega, by go_num, by rw [inN_low x k (k + 1) (Nat.le_refl _)]; rfl⟩
   case round =>
    obtain ⟨l, hkl, hl, rfl, rfl⟩ := hrel
    have h4 := inN_le x k l
    by_cases hll : l < n
    ·have hcl := HC.out l hll
     cases hb : x k
     ·cases hb2 : x l
      all_goals
       rw [hb] at hcell
       rw [hb2] at hcl
       have Hb := Lib.hid hb
       have Hb2 := Lib.hid hb2
       clear hb hb2
       go_wp2
       go_round
       case rel => exact ⟨l + 1, by omega, by omega, by go_num, by simp only [inN, Hb.out, Hb2.out, hkl]; simp; try go_num⟩
       case measure => simp [intOf]; omega
     ·rw [hb] at hcell
      have Hb := Lib.hid hb
      clear hb
      go_wp2
      go_round
      case rel => exact ⟨l + 1, by omega, by omega, by go_num, by simp only [inN, Hb.out]; simp⟩
      case measure => simp [intOf]; omega
    ·obtain rfl : l = n := by omega
     go_wp2
     go_round
     case rel => exact ⟨k + 1, by omega, by go_num, rfl⟩
     case measure => simp [intOf]; omega
  ·obtain rfl : k = n := by omega
   have H := Lib.hid (outN_er x k)
   go_wp2
   go_ret2
   rw [H.out]
   exact ⟨rfl, rfl⟩
theorem erN_wr (x : Nat → Bool) : ∀ k, erN x k ≤ wrN x k * (k - wrN x k)
 | 0 => Nat.le_refl _
 | k + 1 => by
  have h1 := erN_wr x k; have h2 := wrN_le x k; simp only [erN, wrN]
  cases x k
  ·have h3 : wrN x k * (k - wrN x k) ≤ (wrN x k + 1) * (k + 1 - (wrN x k + 1)) := Nat.mul_le_mul (by omega) (by omega)
   simpa using Nat.le_trans h1 h3
  ·have h3 := step_mul (wrN x k) k h2
   simp only [if_true, Nat.add_zero]; omega
theorem erN_quarter (x : Nat → Bool) (n : Nat) : erN x n ≤ n * n / 4 := Nat.le_trans (erN_wr x n) (quarter _ _ (wrN_le x n))
end Go.Proofs.YtjobopafcgnljaaGreat
