import Derived.Test.YtjobopafcgnljaaGreatAl
import Derived.Test.YtjobopafcgnljaaGreatNulB
import Derived.Test.YtjobopafcgnljaaGreatTstD
namespace Go.Proofs.YtjobopafcgnljaaGreat
open Go.RowKit
set_option maxHeartbeats 2000000 in
theorem tst_ok {N : Nat} (b a : Option Addr) (cb n ca : Nat) (x : Nat → Bool) (q : Nat → Rat) (L : Nat) (w : World) (hN : N ≤ w.heap.size) (hm : n ≤ 20) (hs : Sl w b n cb (fun i => .bool (x i))) (h : Rs N w a n ca q L) (hL : L ≤ 100000) (hc : chkF q n = 0) (p : Rat) (hp : upQ (nlQ q n) (n * n / 4 + 1) (erN x n) = p) :
  Calls Tryz.prog 11 #[.slice b n cb, .slice a n ca] w (RcPost N w p 0) := by
 have HS := Lib.hid hs
 have HA := Lib.hid h
 obtain ⟨n20, hx⟩ := chkF_ok hc
 have HC := Lib.hid hc
 have HX := Lib.hid hx
 have HLim := Lib.hid h.lim
 clear hs h hc hx
 obtain ⟨M, hM⟩ : ∃ M, n * n / 4 + 1 = M := ⟨_, rfl⟩
 have hnn : n * n ≤ 400 := Nat.mul_le_mul n20 n20
 have hM1 : M ≤ 101 := by omega
 obtain ⟨g, hg⟩ : ∃ g, erN x n = g := ⟨_, rfl⟩
 have hgM : g < M := by have := erN_quarter x n; omega
 rw [hM, hg] at hp
 have HV := Lib.hid (show valid (nlQ q n) M = true by rw [← hM]; exact valid_nl q n n20 HX.out)
 have HM := Lib.hid hM
 have HG := Lib.hid hg
 clear hM hg
 have hN0 := hN
 have HP := Lib.hid hp
 clear hp
 have HB := Lib.hid (Below.refl w.heap.size w)
 go_enter Tryz.func11, Tryz.ntmps11
 go_wp2_with fail
 refine calls_name fun W0 hW => ?_
 have hs_W0 : w.heap.size ≤ W0.heap.size := by rw [← hW]; exact OmT
 have HL_W0 := Lib.hid (show Below w.heap.size w W0 by rw [← hW]; exact BlA)
 have k_R_0 : W0.cell? ⟨w.heap.size, 0, none⟩ = some (.bool false) := by rw [← hW]; exact CeA
 have k_R_1 : W0.cell? ⟨w.heap.size, 1, none⟩ = some (.slice none 0 0) := by rw [← hW]; exact CeA
 have k_R_2 : W0.cell? ⟨w.heap.size, 2, none⟩ = some (.slice none 0 0) := by rw [← hW]; exact CeA
 have f_R : ∀ o, W0.frozen? ⟨w.heap.size, o, none⟩ = false := by intro o; rw [← hW]; exact CeA
 have HX_R := Lib.hid (show Bn W0 (w.heap.size) by rw [← hW]; exact KpA)
 replace HB := Lib.hid (show Below w.heap.size w W0 by rw [← hW]; exact BlA)
 replace hN : N ≤ W0.heap.size := by rw [← hW]; exact OmT
 have hs0 : w.heap.size ≤ W0.heap.size := by rw [← hW]; exact OmT
 have hl_R : w.heap.size < W0.heap.size := by rw [← hW]; exact OmT
 replace HS := Lib.hid (HS.out.below HL_W0.out)
 replace HA := Lib.hid (HA.out.below HL_W0.out)
 clear HL_W0
 clear hW
 refine (gut_any _ _ _ x _ hm HS.out).mono ?_
 rintro e w' ⟨rfl, rfl⟩
 rw [HG.out]
 go_wp2_with fail
 refine (null_ok (N := N) _ _ _ q L _ hN HA.out (by omega) HC.out).mono ?_
 rw [HM.out]
 rintro e wa ⟨bg, rfl, hg0, hg1, hrl, hb⟩
 have hs_wa : W0.heap.size ≤ wa.heap.size := hb.size
 replace k_R_0 : wa.cell? ⟨w.heap.size, 0, none⟩ = some (.bool false) := (hb.cell (p := ⟨w.heap.size, 0, none⟩) hl_R).trans k_R_0
 replace k_R_1 : wa.cell? ⟨w.heap.size, 1, none⟩ = some (.slice none 0 0) := (hb.cell (p := ⟨w.heap.size, 1, none⟩) hl_R).trans k_R_1
 replace k_R_2 : wa.cell? ⟨w.heap.size, 2, none⟩ = some (.slice none 0 0) := (hb.cell (p := ⟨w.heap.size, 2, none⟩) hl_R).trans k_R_2
 replace f_R : ∀ o, wa.frozen? ⟨w.heap.size, o, none⟩ = false := fun o => (hb.frozen (p := ⟨w.heap.size, o, none⟩) hl_R).trans (f_R o)
 replace HX_R := Lib.hid (HX_R.out.below hb)
 replace HB := Lib.hid (HB.out.trans (hb.mono hs0))
 replace hN : N ≤ wa.heap.size := Nat.le_trans hN hb.size
 replace hs0 : w.heap.size ≤ wa.heap.size := Nat.le_trans hs0 hb.size
 replace hl_R : w.heap.size < wa.heap.size := Nat.lt_of_lt_of_le hl_R hb.size
 replace HS := Lib.hid (HS.out.below hb)
 replace HA := Lib.hid (HA.out.below hb)
 clear hb
 have HD := Lib.hid hrl
 clear hrl
 have HR := Lib.hid (HD.out.rs (by unfold maxLen; omega) (L * n + 2) (fun i _ => nl_rsz q n L n20 HX.out HLim.out i))
 have hln : L * n ≤ 100000 * 20 := Nat.mul_le_mul hL n20
 go_wp2_with fail
 refine (Upper_ok (N := N) _ M _ (nlQ q n) (L * n + 2) _ hN HR.out (by omega) HV.out (g : Int) (by omega) (by omega) g (by omega) p HP.out).mono ?_
 rintro e wb ⟨ry, cy, ry2, cy2, rfl, hn, hn', hb⟩
 have hs_wb : wa.heap.size ≤ wb.heap.size := hb.size
 replace k_R_0 : wb.cell? ⟨w.heap.size, 0, none⟩ = some (.bool false) := (hb.cell (p := ⟨w.heap.size, 0, none⟩) hl_R).trans k_R_0
 replace k_R_1 : wb.cell? ⟨w.heap.size, 1, none⟩ = some (.slice none 0 0) := (hb.cell (p := ⟨w.heap.size, 1, none⟩) hl_R).trans k_R_1
 replace k_R_2 : wb.cell? ⟨w.heap.size, 2, none⟩ = some (.slice none 0 0) := (hb.cell (p := ⟨w.heap.size, 2, none⟩) hl_R).trans k_R_2
 replace f_R : ∀ o, wb.frozen? ⟨w.heap.size, o, none⟩ = false := fun o => (hb.frozen (p := ⟨w.heap.size, o, none⟩) hl_R).trans (f_R o)
 replace HX_R := Lib.hid (HX_R.out.below hb)
 replace HB := Lib.hid (HB.out.trans (hb.mono hs0))
 replace hN : N ≤ wb.heap.size := Nat.le_trans hN hb.size
 replace hs0 : w.heap.size ≤ wb.heap.size := Nat.le_trans hs0 hb.size
 replace hl_R : w.heap.size < wb.heap.size := Nat.lt_of_lt_of_le hl_R hb.size
 replace HS := Lib.hid (HS.out.below hb)
 replace HA := Lib.hid (HA.out.below hb)
 replace HR := Lib.hid (HR.out.below hb)
 clear hb
 have HY1 := Lib.hid hn
 clear hn
 have HY2 := Lib.hid hn'
 clear hn'
 go_wp2_with fail
 refine bodyPost_ret (v := .tuple #[.agg #[.bool (decide ((p).num < 0)), .slice ry (nlen (p).num.natAbs) cy, .slice ry2 (nlen (p).den) cy2], .int .i64 0]) (by simp [results, Tryz.results11, go_sem, k_R_0, k_R_1, k_R_2, hl_R]) rfl ⟨_, _, _, _, rfl, HY1.out.keep ?_, HY2.out.keep ?_, ?_⟩
 all_goals exact KBA
end Go.Proofs.YtjobopafcgnljaaGreat
