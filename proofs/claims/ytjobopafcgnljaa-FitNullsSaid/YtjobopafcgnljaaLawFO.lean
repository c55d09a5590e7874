import Derived.Test.YtjobopafcgnljaaFtN
import Derived.Test.YtjobopafcgnljaaFtO
namespace Go.Proofs.Ytjobopafcgnljaa
open Go.RowKit
theorem Try.underBoolsF : Try.prog.underlying 22 = some (.slice 4) := by kernel_rfl
theorem Try.infoBoolF : (Try.prog.info? 4).map (fun i => (i.zero, i.size, i.bytes)) = some (some (.bool false), 1, 1) := by kernel_rfl
theorem make_boolsF (n : Nat) (h : n ≤ 100000) (w : World) :
  (Instr.makeSlice 22 (.int .i64 (n : Int)) (.int .i64 (n : Int))).run Try.prog w = .ok (.slice (some ⟨w.heap.size, 0, none⟩) n n) (w.alloc (.cells (madeCells #[.bool false] n) 4)) :=
 run_make_row' (P := Try.prog) 22 4 (.bool false) 1 Try.underBoolsF Try.infoBoolF rfl .i64 .i64 n (by omega) (by omega) w
theorem rnk_stepT {T : Nat → Nat → Bool} (hO : Ord T) {n : Nat} {d : Nat → Nat} (hp : Prm n d) (hs : Srt T 0 n d) {r : Nat} (hr : r < n) {j : Nat} (hj : j < n) : decide (rnk T n j < r + 1) = if j = d r then true else decide (rnk T n j < r) := by
 obtain ⟨s, hs1, rfl⟩ := hp.surj j hj
 rw [Srt.rnk hO hp hs hs1]
 by_cases e : s = r
 ·subst e; rw [if_pos rfl, decide_eq_true (by omega)]
 ·rw [if_neg (fun h => e (hp.inj s r hs1 hr h))]
  by_cases h : s < r
  ·rw [decide_eq_true h, decide_eq_true (by omega)]
  ·rw [decide_eq_false h, decide_eq_false (by omega)]
set_option maxHeartbeats 2000000 in
set_option maxRecDepth 100000 in
theorem order_long (a : Option Addr) (n cap : Nat) (w : World) (bc : n ≤ cap) (bm : cap ≤ maxLen) (hn : 20 < n) :
  Calls Try.prog 21 #[.slice a n cap] w (ErrPost w 5) := by
 have HB := Lib.hid (Below.refl w.heap.size w)
 go_enter Try.func21, Try.ntmps21
 go_wp2_with fail
 refine calls_name fun W0 hW => ?_
 have hs_W0 : w.heap.size ≤ W0.heap.size := by rw [← hW]; (first | omega | (simp; done) | (simp; omega))
 have k_S_0 : W0.cell? ⟨w.heap.size, 0, none⟩ = some (.slice a n cap) := by rw [← hW]; (first | (go_simp; done) | (simp; done) | (simp [go_sem]; done) | (simp [go_sem]; done))
 have f_S : ∀ o, W0.frozen? ⟨w.heap.size, o, none⟩ = false := by intro o; rw [← hW]; (first | (go_simp; done) | (simp; done) | (simp [go_sem]; done) | (simp [go_sem]; done))
 have HX_S := Lib.hid (show Bn W0 (w.heap.size) by rw [← hW]; exact KpA)
 replace HB := Lib.hid (show Below w.heap.size w W0 by rw [← hW]; exact BlA)
 have hs0 : w.heap.size ≤ W0.heap.size := by rw [← hW]; (first | omega | (simp; done) | (simp; omega))
 have hl_S : w.heap.size < W0.heap.size := by rw [← hW]; (first | omega | (simp; done) | (simp; omega))
 clear hW
 refine (fcheck_long _ n _ _ bc bm hn).mono ?_
 rintro e wa ⟨rfl, hb⟩
 have hs_wa : W0.heap.size ≤ wa.heap.size := hb.size
 replace k_S_0 : wa.cell? ⟨w.heap.size, 0, none⟩ = some (.slice a n cap) := (hb.cell (p := ⟨w.heap.size, 0, none⟩) hl_S).trans k_S_0
 replace f_S : ∀ o, wa.frozen? ⟨w.heap.size, o, none⟩ = false := fun o => (hb.frozen (p := ⟨w.heap.size, o, none⟩) hl_S).trans (f_S o)
 replace HX_S := Lib.hid (HX_S.out.below hb)
 replace HB := Lib.hid (HB.out.trans (hb.mono hs0))
 replace hs0 : w.heap.size ≤ wa.heap.size := Nat.le_trans hs0 hb.size
 replace hl_S : w.heap.size < wa.heap.size := Nat.lt_of_lt_of_le hl_S hb.size
 clear hb
 go_wp2_with fail
 go_ret2
 exact ⟨rfl, HB.out⟩
end Go.Proofs.Ytjobopafcgnljaa
