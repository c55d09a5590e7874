/- Contract of examboardref31.Runs: for every slice of bools it returns the longest run bestN; no condition. -/
import Derived.Test.YtgaeahpekcdmmaaA1
namespace Go.Proofs.Ytgaeahpekcdmmaa
open Go.RowKit

set_option maxHeartbeats 400000 in
theorem rruns_any (a : Option Addr) (n cap : Nat) (x : Nat → Bool) (w : World) (hs : Sl w a n cap (fun i => .bool (x i))) :
    Calls Try.prog 10 #[.slice a n cap] w fun e w' =>
      e = .returned (.int .i64 (bestN x n)) ∧ ∃ m, w' = w.drewN m := by
  obtain ⟨h0, h1, hc0⟩ := hs
  have hA := Lib.hid hc0
  unfold maxLen at h1
  clear hc0
  go_enter Try.func10, Try.ntmps10
  go_wp2
  go_loopw [3, 4, 5] (fun l r i wq => ∃ k m : Nat, k ≤ n ∧ i = .int .i64 k ∧ l = .int .i64 (bestN x k) ∧ r = .int .i64 (rnN x k) ∧ wq = w.drewN m) (fun _ _ i _ => n - (intOf i).toNat)
  case atStart => exact ⟨0, 0, Nat.zero_le _, rfl, rfl, rfl, rfl⟩
  case round =>
    obtain ⟨k, m, hk, rfl, rfl, rfl, rfl⟩ := hrel
    have h2 := rnN_le x k
    have h3 := bestN_le x k
    by_cases hlt : k < n
    · obtain ⟨b, off, rfl, hc⟩ := hA.out (by omega)
      have hcell := hc k hlt
      by_cases hk0 : 0 < k
      · have hcell2 := hc (k - 1) (by omega)
        clear hc
        by_cases hm1 : rnN x k + 1 ≤ bestN x k <;> by_cases hm2 : bestN x k < 1 <;> cases hb : x k <;> cases hb2 : x (k - 1)
        all_goals (try (exfalso; omega))
        all_goals
          rw [hb] at hcell
          rw [hb2] at hcell2
          have Hb := Lib.hid hb
          have Hb2 := Lib.hid hb2
          clear hb hb2
          go_wp2
          go_quiet (fail)
          go_wp2
          go_roundw
          case rel => exact ⟨k + 1, _, by omega, by go_num, by simp [bestN, rnN, Hb.out, Hb2.out, hk0]; try omega, by simp [rnN, Hb.out, Hb2.out, hk0], rfl⟩
          case measure => simp [intOf]; omega
      · obtain rfl : k = 0 := by omega
        clear hc
        go_wp2
        go_quiet (fail)
        go_wp2
        go_roundw
        case rel => exact ⟨1, _, by omega, by go_num, by simp [bestN, rnN]; try go_num, by simp [rnN], rfl⟩
        case measure => simp [intOf]; omega
    · obtain rfl : k = n := by omega
      go_wp2
      go_ret
      exact ⟨rfl, _, rfl⟩

end Go.Proofs.Ytgaeahpekcdmmaa
