import Derived.Test.YtjobopafcgnljaaGreatAl
import Derived.Test.YtjobopafcgnljaaGreatFtN
import Derived.Test.YtjobopafcgnljaaGreatFtO
namespace Go.Proofs.YtjobopafcgnljaaGreat
open Go.RowKit
theorem Tryz.underBoolsF : Tryz.prog.underlying 37 = some (.slice 4) := by kernel_rfl
theorem Tryz.infoBoolF : (Tryz.prog.info? 4).map (fun i => (i.zero, i.size, i.bytes)) = some (some (.bool false), 1, 1) := by kernel_rfl
theorem make_boolsF (n : Nat) (h : n ≤ 100000) (w : World) :
  (Instr.makeSlice 37 (.int .i64 (n : Int)) (.int .i64 (n : Int))).run Tryz.prog w = .ok (.slice (some ⟨w.heap.size, 0, none⟩) n n) (w.alloc (.cells (madeCells #[.bool false] n) 4)) :=
 run_make_row' (P := Tryz.prog) 37 4 (.bool false) 1 Tryz.underBoolsF Tryz.infoBoolF rfl .i64 .i64 n (by omega) (by omega) w
theorem rnk_stepT {T : Nat → Nat → Bool} (hO : Ord T) {n : Nat} {d : Nat → Nat} (hp : Prm n d) (hs : Srt T 0 n d) {r : Nat} (hr : r < n) {j : Nat} (hj : j < n) : decide (rnk T n j < r + 1) = if j = d r then true else decide (rnk T n j < r) := by
 obtain ⟨s, hs1, rfl⟩ := hp.surj j hj
 rw [Srt.rnk hO hp hs hs1]
 by_cases e : s = r
 ·subst e; rw [if_pos rfl, decide_eq_true (by omega)]
 ·rw [if_neg (fun h => e (hp.inj s r hs1 hr h))]
  by_cases h : s < r
  ·rw [decide_eq_true h, decide_eq_true (by omega)]
  ·rw [decide_eq_false h, decide_eq_false (by omega)]
end Go.Proofs.YtjobopafcgnljaaGreat
