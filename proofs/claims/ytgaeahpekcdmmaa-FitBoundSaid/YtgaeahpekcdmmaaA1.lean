/- Contracts of fit.Guttman, examboardref31.Guttman and fit.Runs: for every slice of bools they return the counts that erN and bestN define; no condition but the bound of the length that is named. -/
import Derived.Test.YtgaeahpekcdmmaaRows
import Derived.WalkKit
import Derived.WalkSpells
import Derived.Deep.QuietTactic
import Derived.BigQuiet
import Derived.Outline
import Derived.Lib.Hide
namespace Go.Proofs.Ytgaeahpekcdmmaa
open Go.RowKit

/-- A slice with one-cell elements reads as the first n values of V. -/
def Sl (w : World) (a : Option Addr) (n cap : Nat) (V : Nat → Value) : Prop :=
  n ≤ cap ∧ cap ≤ maxLen ∧ (0 < n → ∃ b off, a = some ⟨b, off, none⟩ ∧ ∀ i, i < n → w.cell? ⟨b, off + i, none⟩ = some (V i))

def wrN (x : Nat → Bool) : Nat → Nat
  | 0 => 0
  | k + 1 => wrN x k + if x k then 0 else 1
def erN (x : Nat → Bool) : Nat → Nat
  | 0 => 0
  | k + 1 => erN x k + if x k then wrN x k else 0

theorem wrN_le (x : Nat → Bool) : ∀ k, wrN x k ≤ k
  | 0 => Nat.le_refl _
  | k + 1 => by have := wrN_le x k; simp only [wrN]; split <;> omega
theorem erN_le (x : Nat → Bool) : ∀ k, erN x k ≤ k * k
  | 0 => Nat.le_refl _
  | k + 1 => by
    have := erN_le x k; have h2 := wrN_le x k; simp only [erN, Nat.mul_add, Nat.add_mul]; split <;> omega

set_option maxHeartbeats 400000 in
theorem gut_any (a : Option Addr) (n cap : Nat) (x : Nat → Bool) (w : World) (hn : n ≤ 20) (hs : Sl w a n cap (fun i => .bool (x i))) :
    Calls Try.prog 7 #[.slice a n cap] w fun e w' =>
      e = .returned (.tuple #[.int .i64 (erN x n), .int .i64 0]) ∧ w = w' := by
  obtain ⟨_, _, hc0⟩ := hs
  have hA := Lib.hid hc0
  clear hc0
  go_enter Try.func7, Try.ntmps7
  go_wp2
  go_loop [4, 5, 13] (fun n' wg i => ∃ k : Nat, k ≤ n ∧ i = .int .i64 k ∧ n' = .int .i64 (erN x k) ∧ wg = .int .i64 (wrN x k)) (fun _ _ i => n - (intOf i).toNat)
  case atStart => exact ⟨0, Nat.zero_le _, rfl, rfl, rfl⟩
  case round =>
    obtain ⟨k, hk, rfl, rfl, rfl⟩ := hrel
    by_cases hlt : k < n
    · obtain ⟨b, off, rfl, hc⟩ := hA.out (by omega)
      have hcell := hc k hlt
      clear hc
      have h1 := wrN_le x k
      have h2 := erN_le x k
      have h3 : k * k ≤ 20 * 20 := Nat.mul_le_mul (by omega) (by omega)
      cases hb : x k
      all_goals
        rw [hb] at hcell
        have Hb := Lib.hid hb
        clear hb
        go_wp2
        go_round
        case rel => exact ⟨k + 1, by omega, by go_num, by simp only [erN, Hb.out]; simp, by simp only [wrN, Hb.out]; simp⟩
        case measure => simp [intOf]; omega
    · obtain rfl : k = n := by omega
      go_wp2
      go_ret2
      exact ⟨rfl, rfl⟩



theorem gut_long (a : Option Addr) (n cap : Nat) (w : World) (hn : 20 < n) (hm : n ≤ maxLen) :
    Calls Try.prog 7 #[.slice a n cap] w fun e w' =>
      e = .returned (.tuple #[.int .i64 0, .int .i64 5]) ∧ w = w' := by
  unfold maxLen at hm
  go_enter Try.func7, Try.ntmps7
  go_wp2
  go_ret2
  exact ⟨rfl, rfl⟩

theorem rgut_long (a : Option Addr) (n cap : Nat) (w : World) (hn : 20 < n) (hm : n ≤ maxLen) :
    Calls Try.prog 8 #[.slice a n cap] w fun e w' =>
      e = .returned (.tuple #[.int .i64 0, .int .i64 5]) ∧ w = w' := by
  unfold maxLen at hm
  go_enter Try.func8, Try.ntmps8
  go_wp2
  go_ret2
  exact ⟨rfl, rfl⟩

/-- right responses at i+1 .. k-1 if i is wrong -/
def inN (x : Nat → Bool) (i : Nat) : Nat → Nat
  | 0 => 0
  | k + 1 => inN x i k + if i < k ∧ x i = false ∧ x k = true then 1 else 0
def outN (x : Nat → Bool) (n : Nat) : Nat → Nat
  | 0 => 0
  | i + 1 => outN x n i + inN x i n

theorem inN_low (x : Nat → Bool) (i : Nat) : ∀ k, k ≤ i + 1 → inN x i k = 0
  | 0, _ => rfl
  | k + 1, h => by simp only [inN]; rw [inN_low x i k (by omega), if_neg (by omega)]
theorem inN_le (x : Nat → Bool) (i : Nat) : ∀ k, inN x i k ≤ k
  | 0 => Nat.le_refl _
  | k + 1 => by have := inN_le x i k; simp only [inN]; split <;> omega
theorem outN_le (x : Nat → Bool) (n : Nat) : ∀ i, outN x n i ≤ i * n
  | 0 => by simp [outN]
  | i + 1 => by have := outN_le x n i; have h2 := inN_le x i n; simp only [outN, Nat.add_mul]; omega
theorem outN_step (x : Nat → Bool) (n : Nat) : ∀ i, i ≤ n → outN x (n + 1) i = outN x n i + if x n then wrN x i else 0
  | 0, _ => by simp [outN, wrN]
  | i + 1, h => by
    simp only [outN, wrN, inN]; rw [outN_step x n i (by omega)]
    have hlt : i < n := by omega
    cases hn : x n <;> cases hi : x i <;> simp [hlt] <;> omega
theorem outN_er (x : Nat → Bool) : ∀ n, outN x n n = erN x n
  | 0 => rfl
  | n + 1 => by
    simp only [outN, erN]; rw [inN_low x n (n + 1) (Nat.le_refl _), outN_step x n n (Nat.le_refl _), outN_er x n]; rfl

set_option maxHeartbeats 400000 in
theorem rgut_any (a : Option Addr) (n cap : Nat) (x : Nat → Bool) (w : World) (hn : n ≤ 20) (hs : Sl w a n cap (fun i => .bool (x i))) :
    Calls Try.prog 8 #[.slice a n cap] w fun e w' =>
      e = .returned (.tuple #[.int .i64 (erN x n), .int .i64 0]) ∧ w = w' := by
  obtain ⟨_, _, hc0⟩ := hs
  have hA := Lib.hid hc0
  clear hc0
  go_enter Try.func8, Try.ntmps8
  go_wp2
  go_loop [4, 5] (fun n' i => ∃ k : Nat, k ≤ n ∧ i = .int .i64 k ∧ n' = .int .i64 (outN x n k)) (fun _ i => n - (intOf i).toNat)
  case atStart => exact ⟨0, Nat.zero_le _, rfl, rfl⟩
  case round =>
    obtain ⟨k, hk, rfl, rfl⟩ := hrel
    have h2 := outN_le x n k
    have h3 : k * n ≤ 20 * 20 := Nat.mul_le_mul (by omega) (by omega)
    by_cases hlt : k < n
    · obtain ⟨b, off, rfl, hc⟩ := hA.out (by omega)
      have hcell := hc k hlt
      have HC := Lib.hid hc
      clear hc
      go_wp2
      go_loop [4, 6] (fun n' j => ∃ l : Nat, k < l ∧ l ≤ n ∧ j = .int .i64 l ∧ n' = .int .i64 (outN x n k + inN x k l : Nat)) (fun _ i => n - (intOf i).toNat)
      case atStart => exact ⟨k + 1, by omega, by omega, by go_num, by rw [inN_low x k (k + 1) (Nat.le_refl _)]; rfl⟩
      case round =>
        obtain ⟨l, hkl, hl, rfl, rfl⟩ := hrel
        have h4 := inN_le x k l
        by_cases hll : l < n
        · have hcl := HC.out l hll
          cases hb : x k
          · cases hb2 : x l
            all_goals
              rw [hb] at hcell
              rw [hb2] at hcl
              have Hb := Lib.hid hb
              have Hb2 := Lib.hid hb2
              clear hb hb2
              go_wp2
              go_round
              case rel => exact ⟨l + 1, by omega, by omega, by go_num, by simp only [inN, Hb.out, Hb2.out, hkl]; simp; try go_num⟩
              case measure => simp [intOf]; omega
          · rw [hb] at hcell
            have Hb := Lib.hid hb
            clear hb
            go_wp2
            go_round
            case rel => exact ⟨l + 1, by omega, by omega, by go_num, by simp only [inN, Hb.out]; simp⟩
            case measure => simp [intOf]; omega
        · obtain rfl : l = n := by omega
          go_wp2
          go_round
          case rel => exact ⟨k + 1, by omega, by go_num, rfl⟩
          case measure => simp [intOf]; omega
    · obtain rfl : k = n := by omega
      have H := Lib.hid (outN_er x k)
      go_wp2
      go_ret2
      rw [H.out]
      exact ⟨rfl, rfl⟩



/-- the run that ends at k-1; the longest of the first k -/
def rnN (x : Nat → Bool) : Nat → Nat
  | 0 => 0
  | k + 1 => if 0 < k ∧ x k ≠ x (k - 1) then 1 else rnN x k + 1
def bestN (x : Nat → Bool) : Nat → Nat
  | 0 => 0
  | k + 1 => max (bestN x k) (rnN x (k + 1))
theorem rnN_le (x : Nat → Bool) : ∀ k, rnN x k ≤ k
  | 0 => Nat.le_refl _
  | k + 1 => by have := rnN_le x k; simp only [rnN]; split <;> omega
theorem bestN_le (x : Nat → Bool) : ∀ k, bestN x k ≤ k
  | 0 => Nat.le_refl _
  | k + 1 => by have := bestN_le x k; have := rnN_le x (k + 1); simp only [bestN]; omega

set_option maxHeartbeats 400000 in
theorem runs_any (a : Option Addr) (n cap : Nat) (x : Nat → Bool) (w : World) (hs : Sl w a n cap (fun i => .bool (x i))) :
    Calls Try.prog 9 #[.slice a n cap] w fun e w' =>
      e = .returned (.int .i64 (bestN x n)) ∧ ∃ m, w' = w.drewN m := by
  obtain ⟨h0, h1, hc0⟩ := hs
  have hA := Lib.hid hc0
  unfold maxLen at h1
  clear hc0
  go_enter Try.func9, Try.ntmps9
  go_wp2
  go_loopw [3, 4, 8] (fun l r i wq => ∃ k m : Nat, k ≤ n ∧ i = .int .i64 k ∧ l = .int .i64 (bestN x k) ∧ r = .int .i64 (rnN x k) ∧ wq = w.drewN m) (fun _ _ i _ => n - (intOf i).toNat)
  case atStart => exact ⟨0, 0, Nat.zero_le _, rfl, rfl, rfl, rfl⟩
  case round =>
    obtain ⟨k, m, hk, rfl, rfl, rfl, rfl⟩ := hrel
    have h2 := rnN_le x k
    have h3 := bestN_le x k
    by_cases hlt : k < n
    · obtain ⟨b, off, rfl, hc⟩ := hA.out (by omega)
      have hcell := hc k hlt
      by_cases hk0 : 0 < k
      · have hcell2 := hc (k - 1) (by omega)
        clear hc
        cases hb : x k <;> cases hb2 : x (k - 1)
        all_goals
          rw [hb] at hcell
          rw [hb2] at hcell2
          have Hb := Lib.hid hb
          have Hb2 := Lib.hid hb2
          clear hb hb2
          go_wp2
          go_quiet (fail)
          go_wp2
          go_roundw
          case rel => exact ⟨k + 1, _, by omega, by go_num, by simp [bestN, rnN, Hb.out, Hb2.out, hk0]; try go_num, by simp [rnN, Hb.out, Hb2.out, hk0], rfl⟩
          case measure => simp [intOf]; omega
      · obtain rfl : k = 0 := by omega
        clear hc
        go_wp2
        go_quiet (fail)
        go_wp2
        go_roundw
        case rel => exact ⟨1, _, by omega, by go_num, by simp [bestN, rnN]; try go_num, by simp [rnN], rfl⟩
        case measure => simp [intOf]; omega
    · obtain rfl : k = n := by omega
      go_wp2
      go_ret
      exact ⟨rfl, _, rfl⟩

end Go.Proofs.Ytgaeahpekcdmmaa
