/- DifSymmetric returns true: the walk. The table of powers of ten must lie in memory. -/
import Derived.Test.YtmecipfdelgfbaaDoorLawEN
namespace Go.Proofs.YtmecipfdelgfbaaDoor
open Go.RowKit

theorem claS_bd (P al nu de : Rat) : -2 ≤ claS P al nu de ∧ claS P al nu de ≤ 2 := by
  unfold claS
  repeat' split
  all_goals decide
theorem onm_sw (t : Nat → Nat → Nat) (n : Nat) : sQ (onmS (swS t)) n = sQ (odnS t) n := sQ_congr (fun i _ => onmS_sw t i)
theorem odn_sw (t : Nat → Nat → Nat) (n : Nat) : sQ (odnS (swS t)) n = sQ (onmS t) n := sQ_congr (fun i _ => odnS_sw t i)

set_option maxRecDepth 20000 in
set_option maxHeartbeats 8000000 in
theorem difSym_walk {N : Nat} (a : Option Addr) (n cap : Nat) (z : Nat → Nat → Int) (s2 : Bool) (a2 d2 : Option Addr) (na2 ca2 nd2 cd2 L : Nat) (al : Rat) (w : World) (hN : N ≤ w.heap.size) (h : Ts w a n cap z) (h2 : Rt N w s2 a2 na2 ca2 d2 nd2 cd2 al L) (hL : L ≤ 2097152) (htab : TabW w) (b0 : Bool) (hb0 : prb al = b0) :
    Calls Tryd.prog 3 #[.slice a n cap, .agg #[.bool s2, .slice a2 na2 ca2, .slice d2 nd2 cd2]] w fun e w' => e = .returned (.bool true) ∧ Below w.heap.size w w' := by
  have HA := Lib.hid h
  have HT := Lib.hid htab
  have HAL := Lib.hid h2
  have bc := h.1
  have bm := h.2.1
  unfold maxLen at bm
  clear h htab h2
  have HPB := Lib.hid hb0
  clear hb0
  have hN0 := hN
  have HB := Lib.hid (Below.refl w.heap.size w)
  go_enter Tryd.func3, Tryd.ntmps3
  go_wp2_with fail
  refine calls_name fun W0 hW => ?_
  have hs_W0 : w.heap.size ≤ W0.heap.size := by rw [← hW]; (first | omega | (simp; done) | (simp; omega))
  have HL_W0 := Lib.hid (show Below w.heap.size w W0 by rw [← hW]; exact BlA)
  have k_A_0 : W0.cell? ⟨w.heap.size, 0, none⟩ = some (.bool s2) := by rw [← hW]; (first | (go_simp; done) | (simp; done) | (simp [go_sem]; done) | (simp [go_sem]; done))
  have k_A_1 : W0.cell? ⟨w.heap.size, 1, none⟩ = some (.slice a2 na2 ca2) := by rw [← hW]; (first | (go_simp; done) | (simp; done) | (simp [go_sem]; done) | (simp [go_sem]; done))
  have k_A_2 : W0.cell? ⟨w.heap.size, 2, none⟩ = some (.slice d2 nd2 cd2) := by rw [← hW]; (first | (go_simp; done) | (simp; done) | (simp [go_sem]; done) | (simp [go_sem]; done))
  have f_A : ∀ o, W0.frozen? ⟨w.heap.size, o, none⟩ = false := by intro o; rw [← hW]; (first | (go_simp; done) | (simp; done) | (simp [go_sem]; done) | (simp [go_sem]; done))
  have HX_A := Lib.hid (show Bn W0 (w.heap.size) by rw [← hW]; exact KpA)
  replace HB := Lib.hid (show Below w.heap.size w W0 by rw [← hW]; exact BlA)
  replace hN : N ≤ W0.heap.size := by rw [← hW]; (first | omega | (simp; done) | (simp; omega))
  have hs0 : w.heap.size ≤ W0.heap.size := by rw [← hW]; (first | omega | (simp; done) | (simp; omega))
  have hl_A : w.heap.size < W0.heap.size := by rw [← hW]; (first | omega | (simp; done) | (simp; omega))
  replace HA := Lib.hid (HA.out.below HL_W0.out)
  replace HT := Lib.hid (HT.out.below HL_W0.out)
  replace HAL := Lib.hid (HAL.out.below HL_W0.out)
  clear HL_W0
  clear hW
  refine (few_any _ _ _ z _ HA.out).mono ?_
  rintro e wa ⟨p, m, cp, t, rfl, hm6, htz, hbd, hb⟩
  have hs_wa : W0.heap.size ≤ wa.heap.size := hb.size
  replace k_A_0 : wa.cell? ⟨w.heap.size, 0, none⟩ = some (.bool s2) := (hb.cell (p := ⟨w.heap.size, 0, none⟩) hl_A).trans k_A_0
  replace k_A_1 : wa.cell? ⟨w.heap.size, 1, none⟩ = some (.slice a2 na2 ca2) := (hb.cell (p := ⟨w.heap.size, 1, none⟩) hl_A).trans k_A_1
  replace k_A_2 : wa.cell? ⟨w.heap.size, 2, none⟩ = some (.slice d2 nd2 cd2) := (hb.cell (p := ⟨w.heap.size, 2, none⟩) hl_A).trans k_A_2
  replace f_A : ∀ o, wa.frozen? ⟨w.heap.size, o, none⟩ = false := fun o => (hb.frozen (p := ⟨w.heap.size, o, none⟩) hl_A).trans (f_A o)
  replace HX_A := Lib.hid (HX_A.out.below hb)
  replace HB := Lib.hid (HB.out.trans (hb.mono hs0))
  replace hN : N ≤ wa.heap.size := Nat.le_trans hN hb.size
  replace hs0 : w.heap.size ≤ wa.heap.size := Nat.le_trans hs0 hb.size
  replace hl_A : w.heap.size < wa.heap.size := Nat.lt_of_lt_of_le hl_A hb.size
  replace HA := Lib.hid (HA.out.below hb)
  replace HT := Lib.hid (HT.out.below hb)
  replace HAL := Lib.hid (HAL.out.below hb)
  clear hb
  have HTZ := Lib.hid htz
  have pc1 := htz.1
  have pc2 := htz.2.1
  unfold maxLen at pc2
  have HBD := Lib.hid (show sm6 t m from hbd)
  clear htz hbd
  clear HA
  go_wp2_with fail
  refine calls_name fun W1 hW => ?_
  have HL_W1 := Lib.hid (show Below wa.heap.size wa W1 by rw [← hW]; exact BlA)
  have hs_W1 : wa.heap.size ≤ W1.heap.size := by rw [← hW]; (first | omega | (simp; done) | (simp; omega))
  replace k_A_0 : W1.cell? ⟨w.heap.size, 0, none⟩ = some (.bool s2) := (HL_W1.out.cell (p := ⟨w.heap.size, 0, none⟩) hl_A).trans k_A_0
  replace k_A_1 : W1.cell? ⟨w.heap.size, 1, none⟩ = some (.slice a2 na2 ca2) := (HL_W1.out.cell (p := ⟨w.heap.size, 1, none⟩) hl_A).trans k_A_1
  replace k_A_2 : W1.cell? ⟨w.heap.size, 2, none⟩ = some (.slice d2 nd2 cd2) := (HL_W1.out.cell (p := ⟨w.heap.size, 2, none⟩) hl_A).trans k_A_2
  replace f_A : ∀ o, W1.frozen? ⟨w.heap.size, o, none⟩ = false := fun o => (HL_W1.out.frozen (p := ⟨w.heap.size, o, none⟩) hl_A).trans (f_A o)
  replace HX_A := Lib.hid (show Bn W1 (w.heap.size) by rw [← hW]; exact KpA)
  replace HB := Lib.hid (show Below w.heap.size w W1 by rw [← hW]; exact BlA)
  replace hN : N ≤ W1.heap.size := by rw [← hW]; (first | omega | (simp; done) | (simp; omega))
  replace hs0 : w.heap.size ≤ W1.heap.size := by rw [← hW]; (first | omega | (simp; done) | (simp; omega))
  replace hl_A : w.heap.size < W1.heap.size := by rw [← hW]; (first | omega | (simp; done) | (simp; omega))
  replace HT := Lib.hid (HT.out.below HL_W1.out)
  replace HAL := Lib.hid (HAL.out.below HL_W1.out)
  replace HTZ := Lib.hid (HTZ.out.below HL_W1.out)
  clear HL_W1
  clear hW
  refine (swapped_any _ m _ t _ HTZ.out (by omega) HBD.out.cnt).mono ?_
  rintro e wb ⟨p2, cp2, rfl, htz2, hb⟩
  have hs_wb : W1.heap.size ≤ wb.heap.size := hb.size
  replace k_A_0 : wb.cell? ⟨w.heap.size, 0, none⟩ = some (.bool s2) := (hb.cell (p := ⟨w.heap.size, 0, none⟩) hl_A).trans k_A_0
  replace k_A_1 : wb.cell? ⟨w.heap.size, 1, none⟩ = some (.slice a2 na2 ca2) := (hb.cell (p := ⟨w.heap.size, 1, none⟩) hl_A).trans k_A_1
  replace k_A_2 : wb.cell? ⟨w.heap.size, 2, none⟩ = some (.slice d2 nd2 cd2) := (hb.cell (p := ⟨w.heap.size, 2, none⟩) hl_A).trans k_A_2
  replace f_A : ∀ o, wb.frozen? ⟨w.heap.size, o, none⟩ = false := fun o => (hb.frozen (p := ⟨w.heap.size, o, none⟩) hl_A).trans (f_A o)
  replace HX_A := Lib.hid (HX_A.out.below hb)
  replace HB := Lib.hid (HB.out.trans (hb.mono hs0))
  replace hN : N ≤ wb.heap.size := Nat.le_trans hN hb.size
  replace hs0 : w.heap.size ≤ wb.heap.size := Nat.le_trans hs0 hb.size
  replace hl_A : w.heap.size < wb.heap.size := Nat.lt_of_lt_of_le hl_A hb.size
  replace HT := Lib.hid (HT.out.below hb)
  replace HAL := Lib.hid (HAL.out.below hb)
  replace HTZ := Lib.hid (HTZ.out.below hb)
  clear hb
  have qc1 := htz2.1
  have qc2 := htz2.2.1
  unfold maxLen at qc2
  have HTB := Lib.hid htz2
  clear htz2
  go_wp2_with fail
  obtain ⟨P, hP⟩ : ∃ p, tstS t m = p := ⟨_, rfl⟩
  have HPP := Lib.hid hP
  have HPP2 := Lib.hid ((tstS_sw t m).trans hP)
  obtain ⟨nu, hnu⟩ : ∃ p, sQ (onmS t) m = p := ⟨_, rfl⟩
  obtain ⟨de, hde⟩ : ∃ p, sQ (odnS t) m = p := ⟨_, rfl⟩
  have HNU := Lib.hid hnu
  have HDE := Lib.hid hde
  have HNU2 := Lib.hid ((onm_sw t m).trans hde)
  have HDE2 := Lib.hid ((odn_sw t m).trans hnu)
  have hnn := sumS_nonneg t m
  rw [hnu, hde] at hnn
  obtain ⟨d, hd⟩ : ∃ d, claS P al de nu = d := ⟨_, rfl⟩
  have hdb := claS_bd P al de nu
  rw [hd] at hdb
  have HD := Lib.hid (show claS (tstS (swS t) m) al (sQ (onmS (swS t)) m) (sQ (odnS (swS t)) m) = d by rw [HPP2.out, HNU2.out, HDE2.out]; exact hd)
  have HC := Lib.hid (show claS (tstS t m) al (sQ (onmS t) m) (sQ (odnS t) m) = -d by rw [hP, hnu, hde, claS_neg P al nu de hnn.1 hnn.2, hd])
  obtain ⟨hd1, hd2⟩ := hdb
  clear hP hnu hde hd hnn
  refine calls_name fun W2 hW => ?_
  have HL_W2 := Lib.hid (show Below wb.heap.size wb W2 by rw [← hW]; exact BlA)
  have hs_W2 : wb.heap.size ≤ W2.heap.size := by rw [← hW]; (first | omega | (simp; done) | (simp; omega))
  replace k_A_0 : W2.cell? ⟨w.heap.size, 0, none⟩ = some (.bool s2) := (HL_W2.out.cell (p := ⟨w.heap.size, 0, none⟩) hl_A).trans k_A_0
  replace k_A_1 : W2.cell? ⟨w.heap.size, 1, none⟩ = some (.slice a2 na2 ca2) := (HL_W2.out.cell (p := ⟨w.heap.size, 1, none⟩) hl_A).trans k_A_1
  replace k_A_2 : W2.cell? ⟨w.heap.size, 2, none⟩ = some (.slice d2 nd2 cd2) := (HL_W2.out.cell (p := ⟨w.heap.size, 2, none⟩) hl_A).trans k_A_2
  replace f_A : ∀ o, W2.frozen? ⟨w.heap.size, o, none⟩ = false := fun o => (HL_W2.out.frozen (p := ⟨w.heap.size, o, none⟩) hl_A).trans (f_A o)
  replace HX_A := Lib.hid (show Bn W2 (w.heap.size) by rw [← hW]; exact KpA)
  replace HB := Lib.hid (show Below w.heap.size w W2 by rw [← hW]; exact BlA)
  replace hN : N ≤ W2.heap.size := by rw [← hW]; (first | omega | (simp; done) | (simp; omega))
  replace hs0 : w.heap.size ≤ W2.heap.size := by rw [← hW]; (first | omega | (simp; done) | (simp; omega))
  replace hl_A : w.heap.size < W2.heap.size := by rw [← hW]; (first | omega | (simp; done) | (simp; omega))
  replace HT := Lib.hid (HT.out.below HL_W2.out)
  replace HAL := Lib.hid (HAL.out.below HL_W2.out)
  replace HTZ := Lib.hid (HTZ.out.below HL_W2.out)
  replace HTB := Lib.hid (HTB.out.below HL_W2.out)
  clear HL_W2
  clear hW
  refine (odds_ok (N := N) _ m _ t _ hN HTZ.out (by omega) HBD.out.cnt nu de HNU.out HDE.out).mono ?_
  rintro e wc ⟨ru, cu, ru2, cu2, rv, cv, rv2, cv2, rfl, hn1, hn2, hm1, hm2, hb⟩
  have hs_wc : W2.heap.size ≤ wc.heap.size := hb.size
  replace k_A_0 : wc.cell? ⟨w.heap.size, 0, none⟩ = some (.bool s2) := (hb.cell (p := ⟨w.heap.size, 0, none⟩) hl_A).trans k_A_0
  replace k_A_1 : wc.cell? ⟨w.heap.size, 1, none⟩ = some (.slice a2 na2 ca2) := (hb.cell (p := ⟨w.heap.size, 1, none⟩) hl_A).trans k_A_1
  replace k_A_2 : wc.cell? ⟨w.heap.size, 2, none⟩ = some (.slice d2 nd2 cd2) := (hb.cell (p := ⟨w.heap.size, 2, none⟩) hl_A).trans k_A_2
  replace f_A : ∀ o, wc.frozen? ⟨w.heap.size, o, none⟩ = false := fun o => (hb.frozen (p := ⟨w.heap.size, o, none⟩) hl_A).trans (f_A o)
  replace HX_A := Lib.hid (HX_A.out.below hb)
  replace HB := Lib.hid (HB.out.trans (hb.mono hs0))
  replace hN : N ≤ wc.heap.size := Nat.le_trans hN hb.size
  replace hs0 : w.heap.size ≤ wc.heap.size := Nat.le_trans hs0 hb.size
  replace hl_A : w.heap.size < wc.heap.size := Nat.lt_of_lt_of_le hl_A hb.size
  replace HT := Lib.hid (HT.out.below hb)
  replace HAL := Lib.hid (HAL.out.below hb)
  replace HTZ := Lib.hid (HTZ.out.below hb)
  replace HTB := Lib.hid (HTB.out.below hb)
  clear hb
  have HU1 := Lib.hid hn1
  clear hn1
  have HU2 := Lib.hid hn2
  clear hn2
  have HV1 := Lib.hid hm1
  clear hm1
  have HV2 := Lib.hid hm2
  clear hm2
  go_wp2_with fail
  refine calls_name fun W3 hW => ?_
  have HL_W3 := Lib.hid (show Below wc.heap.size wc W3 by rw [← hW]; exact BlA)
  have hs_W3 : wc.heap.size ≤ W3.heap.size := by rw [← hW]; (first | omega | (simp; done) | (simp; omega))
  have hd_A_U : w.heap.size < wc.heap.size := by omega
  have hd_A_V : w.heap.size < wc.heap.size + 1 := by omega
  have HK_W3 := Lib.hid (show Kp N wc W3 by rw [← hW]; exact KpA)
  replace k_A_0 : W3.cell? ⟨w.heap.size, 0, none⟩ = some (.bool s2) := (HL_W3.out.cell (p := ⟨w.heap.size, 0, none⟩) hl_A).trans k_A_0
  replace k_A_1 : W3.cell? ⟨w.heap.size, 1, none⟩ = some (.slice a2 na2 ca2) := (HL_W3.out.cell (p := ⟨w.heap.size, 1, none⟩) hl_A).trans k_A_1
  replace k_A_2 : W3.cell? ⟨w.heap.size, 2, none⟩ = some (.slice d2 nd2 cd2) := (HL_W3.out.cell (p := ⟨w.heap.size, 2, none⟩) hl_A).trans k_A_2
  replace f_A : ∀ o, W3.frozen? ⟨w.heap.size, o, none⟩ = false := fun o => (HL_W3.out.frozen (p := ⟨w.heap.size, o, none⟩) hl_A).trans (f_A o)
  replace HX_A := Lib.hid (show Bn W3 (w.heap.size) by rw [← hW]; exact KpA)
  have k_U_0 : W3.cell? ⟨wc.heap.size, 0, none⟩ = some (.bool (decide ((nu).num < 0))) := by rw [← hW]; (first | (go_simp; done) | (simp; done) | (simp [go_sem]; done) | (simp [go_sem, k_A_0, k_A_1, k_A_2, f_A, hl_A]; done))
  have k_U_1 : W3.cell? ⟨wc.heap.size, 1, none⟩ = some (.slice ru (nlen (nu).num.natAbs) cu) := by rw [← hW]; (first | (go_simp; done) | (simp; done) | (simp [go_sem]; done) | (simp [go_sem, k_A_0, k_A_1, k_A_2, f_A, hl_A]; done))
  have k_U_2 : W3.cell? ⟨wc.heap.size, 2, none⟩ = some (.slice ru2 (nlen (nu).den) cu2) := by rw [← hW]; (first | (go_simp; done) | (simp; done) | (simp [go_sem]; done) | (simp [go_sem, k_A_0, k_A_1, k_A_2, f_A, hl_A]; done))
  have f_U : ∀ o, W3.frozen? ⟨wc.heap.size, o, none⟩ = false := by intro o; rw [← hW]; (first | (go_simp; done) | (simp; done) | (simp [go_sem]; done) | (simp [go_sem, k_A_0, k_A_1, k_A_2, f_A, hl_A]; done))
  have HX_U := Lib.hid (show Bn W3 (wc.heap.size) by rw [← hW]; exact KpA)
  have k_V_0 : W3.cell? ⟨wc.heap.size + 1, 0, none⟩ = some (.bool (decide ((de).num < 0))) := by rw [← hW]; (first | (go_simp; done) | (simp; done) | (simp [go_sem]; done) | (simp [go_sem, k_A_0, k_A_1, k_A_2, f_A, hl_A]; done))
  have k_V_1 : W3.cell? ⟨wc.heap.size + 1, 1, none⟩ = some (.slice rv (nlen (de).num.natAbs) cv) := by rw [← hW]; (first | (go_simp; done) | (simp; done) | (simp [go_sem]; done) | (simp [go_sem, k_A_0, k_A_1, k_A_2, f_A, hl_A]; done))
  have k_V_2 : W3.cell? ⟨wc.heap.size + 1, 2, none⟩ = some (.slice rv2 (nlen (de).den) cv2) := by rw [← hW]; (first | (go_simp; done) | (simp; done) | (simp [go_sem]; done) | (simp [go_sem, k_A_0, k_A_1, k_A_2, f_A, hl_A]; done))
  have f_V : ∀ o, W3.frozen? ⟨wc.heap.size + 1, o, none⟩ = false := by intro o; rw [← hW]; (first | (go_simp; done) | (simp; done) | (simp [go_sem]; done) | (simp [go_sem, k_A_0, k_A_1, k_A_2, f_A, hl_A]; done))
  have HX_V := Lib.hid (show Bn W3 (wc.heap.size + 1) by rw [← hW]; exact KpA)
  replace HU1 := Lib.hid (HU1.out.keep HK_W3.out)
  replace HU2 := Lib.hid (HU2.out.keep HK_W3.out)
  replace HV1 := Lib.hid (HV1.out.keep HK_W3.out)
  replace HV2 := Lib.hid (HV2.out.keep HK_W3.out)
  replace HB := Lib.hid (show Below w.heap.size w W3 by rw [← hW]; exact BlA)
  replace hN : N ≤ W3.heap.size := by rw [← hW]; (first | omega | (simp; done) | (simp; omega))
  replace hs0 : w.heap.size ≤ W3.heap.size := by rw [← hW]; (first | omega | (simp; done) | (simp; omega))
  replace hl_A : w.heap.size < W3.heap.size := by rw [← hW]; (first | omega | (simp; done) | (simp; omega))
  have hl_U : wc.heap.size < W3.heap.size := by rw [← hW]; (first | omega | (simp; done) | (simp; omega))
  have hl_V : wc.heap.size + 1 < W3.heap.size := by rw [← hW]; (first | omega | (simp; done) | (simp; omega))
  replace HT := Lib.hid (HT.out.below HL_W3.out)
  replace HAL := Lib.hid (HAL.out.below HL_W3.out)
  replace HTZ := Lib.hid (HTZ.out.below HL_W3.out)
  replace HTB := Lib.hid (HTB.out.below HL_W3.out)
  clear HL_W3
  clear hW HK_W3
  refine (odds_ok (N := N) _ m _ (swS t) _ hN HTB.out (by omega) HBD.out.sw.cnt de nu HNU2.out HDE2.out).mono ?_
  rintro e wd ⟨rx, cx, rx2, cx2, ry, cy, ry2, cy2, rfl, hn1, hn2, hm1, hm2, hb⟩
  have hs_wd : W3.heap.size ≤ wd.heap.size := hb.size
  replace k_A_0 : wd.cell? ⟨w.heap.size, 0, none⟩ = some (.bool s2) := (hb.cell (p := ⟨w.heap.size, 0, none⟩) hl_A).trans k_A_0
  replace k_A_1 : wd.cell? ⟨w.heap.size, 1, none⟩ = some (.slice a2 na2 ca2) := (hb.cell (p := ⟨w.heap.size, 1, none⟩) hl_A).trans k_A_1
  replace k_A_2 : wd.cell? ⟨w.heap.size, 2, none⟩ = some (.slice d2 nd2 cd2) := (hb.cell (p := ⟨w.heap.size, 2, none⟩) hl_A).trans k_A_2
  replace f_A : ∀ o, wd.frozen? ⟨w.heap.size, o, none⟩ = false := fun o => (hb.frozen (p := ⟨w.heap.size, o, none⟩) hl_A).trans (f_A o)
  replace HX_A := Lib.hid (HX_A.out.below hb)
  replace k_U_0 : wd.cell? ⟨wc.heap.size, 0, none⟩ = some (.bool (decide ((nu).num < 0))) := (hb.cell (p := ⟨wc.heap.size, 0, none⟩) hl_U).trans k_U_0
  replace k_U_1 : wd.cell? ⟨wc.heap.size, 1, none⟩ = some (.slice ru (nlen (nu).num.natAbs) cu) := (hb.cell (p := ⟨wc.heap.size, 1, none⟩) hl_U).trans k_U_1
  replace k_U_2 : wd.cell? ⟨wc.heap.size, 2, none⟩ = some (.slice ru2 (nlen (nu).den) cu2) := (hb.cell (p := ⟨wc.heap.size, 2, none⟩) hl_U).trans k_U_2
  replace f_U : ∀ o, wd.frozen? ⟨wc.heap.size, o, none⟩ = false := fun o => (hb.frozen (p := ⟨wc.heap.size, o, none⟩) hl_U).trans (f_U o)
  replace HX_U := Lib.hid (HX_U.out.below hb)
  replace k_V_0 : wd.cell? ⟨wc.heap.size + 1, 0, none⟩ = some (.bool (decide ((de).num < 0))) := (hb.cell (p := ⟨wc.heap.size + 1, 0, none⟩) hl_V).trans k_V_0
  replace k_V_1 : wd.cell? ⟨wc.heap.size + 1, 1, none⟩ = some (.slice rv (nlen (de).num.natAbs) cv) := (hb.cell (p := ⟨wc.heap.size + 1, 1, none⟩) hl_V).trans k_V_1
  replace k_V_2 : wd.cell? ⟨wc.heap.size + 1, 2, none⟩ = some (.slice rv2 (nlen (de).den) cv2) := (hb.cell (p := ⟨wc.heap.size + 1, 2, none⟩) hl_V).trans k_V_2
  replace f_V : ∀ o, wd.frozen? ⟨wc.heap.size + 1, o, none⟩ = false := fun o => (hb.frozen (p := ⟨wc.heap.size + 1, o, none⟩) hl_V).trans (f_V o)
  replace HX_V := Lib.hid (HX_V.out.below hb)
  replace HU1 := Lib.hid (HU1.out.below hb)
  replace HU2 := Lib.hid (HU2.out.below hb)
  replace HV1 := Lib.hid (HV1.out.below hb)
  replace HV2 := Lib.hid (HV2.out.below hb)
  replace HB := Lib.hid (HB.out.trans (hb.mono hs0))
  replace hN : N ≤ wd.heap.size := Nat.le_trans hN hb.size
  replace hs0 : w.heap.size ≤ wd.heap.size := Nat.le_trans hs0 hb.size
  replace hl_A : w.heap.size < wd.heap.size := Nat.lt_of_lt_of_le hl_A hb.size
  replace hl_U : wc.heap.size < wd.heap.size := Nat.lt_of_lt_of_le hl_U hb.size
  replace hl_V : wc.heap.size + 1 < wd.heap.size := Nat.lt_of_lt_of_le hl_V hb.size
  replace HT := Lib.hid (HT.out.below hb)
  replace HAL := Lib.hid (HAL.out.below hb)
  replace HTZ := Lib.hid (HTZ.out.below hb)
  replace HTB := Lib.hid (HTB.out.below hb)
  clear hb
  have HX1 := Lib.hid hn1
  clear hn1
  have HX2 := Lib.hid hn2
  clear hn2
  have HY1 := Lib.hid hm1
  clear hm1
  have HY2 := Lib.hid hm2
  clear hm2
  go_wp2_with fail
  refine calls_name fun W4 hW => ?_
  have HL_W4 := Lib.hid (show Below wd.heap.size wd W4 by rw [← hW]; exact BlA)
  have hs_W4 : wd.heap.size ≤ W4.heap.size := by rw [← hW]; (first | omega | (simp; done) | (simp; omega))
  have hd_A_X : w.heap.size < wd.heap.size := by omega
  have hd_U_X : wc.heap.size < wd.heap.size := by omega
  have hd_V_X : wc.heap.size + 1 < wd.heap.size := by omega
  have hd_A_Y : w.heap.size < wd.heap.size + 1 := by omega
  have hd_U_Y : wc.heap.size < wd.heap.size + 1 := by omega
  have hd_V_Y : wc.heap.size + 1 < wd.heap.size + 1 := by omega
  have HK_W4 := Lib.hid (show Kp N wd W4 by rw [← hW]; exact KpA)
  replace k_A_0 : W4.cell? ⟨w.heap.size, 0, none⟩ = some (.bool s2) := (HL_W4.out.cell (p := ⟨w.heap.size, 0, none⟩) hl_A).trans k_A_0
  replace k_A_1 : W4.cell? ⟨w.heap.size, 1, none⟩ = some (.slice a2 na2 ca2) := (HL_W4.out.cell (p := ⟨w.heap.size, 1, none⟩) hl_A).trans k_A_1
  replace k_A_2 : W4.cell? ⟨w.heap.size, 2, none⟩ = some (.slice d2 nd2 cd2) := (HL_W4.out.cell (p := ⟨w.heap.size, 2, none⟩) hl_A).trans k_A_2
  replace f_A : ∀ o, W4.frozen? ⟨w.heap.size, o, none⟩ = false := fun o => (HL_W4.out.frozen (p := ⟨w.heap.size, o, none⟩) hl_A).trans (f_A o)
  replace HX_A := Lib.hid (show Bn W4 (w.heap.size) by rw [← hW]; exact KpA)
  replace k_U_0 : W4.cell? ⟨wc.heap.size, 0, none⟩ = some (.bool (decide ((nu).num < 0))) := (HL_W4.out.cell (p := ⟨wc.heap.size, 0, none⟩) hl_U).trans k_U_0
  replace k_U_1 : W4.cell? ⟨wc.heap.size, 1, none⟩ = some (.slice ru (nlen (nu).num.natAbs) cu) := (HL_W4.out.cell (p := ⟨wc.heap.size, 1, none⟩) hl_U).trans k_U_1
  replace k_U_2 : W4.cell? ⟨wc.heap.size, 2, none⟩ = some (.slice ru2 (nlen (nu).den) cu2) := (HL_W4.out.cell (p := ⟨wc.heap.size, 2, none⟩) hl_U).trans k_U_2
  replace f_U : ∀ o, W4.frozen? ⟨wc.heap.size, o, none⟩ = false := fun o => (HL_W4.out.frozen (p := ⟨wc.heap.size, o, none⟩) hl_U).trans (f_U o)
  replace HX_U := Lib.hid (show Bn W4 (wc.heap.size) by rw [← hW]; exact KpA)
  replace k_V_0 : W4.cell? ⟨wc.heap.size + 1, 0, none⟩ = some (.bool (decide ((de).num < 0))) := (HL_W4.out.cell (p := ⟨wc.heap.size + 1, 0, none⟩) hl_V).trans k_V_0
  replace k_V_1 : W4.cell? ⟨wc.heap.size + 1, 1, none⟩ = some (.slice rv (nlen (de).num.natAbs) cv) := (HL_W4.out.cell (p := ⟨wc.heap.size + 1, 1, none⟩) hl_V).trans k_V_1
  replace k_V_2 : W4.cell? ⟨wc.heap.size + 1, 2, none⟩ = some (.slice rv2 (nlen (de).den) cv2) := (HL_W4.out.cell (p := ⟨wc.heap.size + 1, 2, none⟩) hl_V).trans k_V_2
  replace f_V : ∀ o, W4.frozen? ⟨wc.heap.size + 1, o, none⟩ = false := fun o => (HL_W4.out.frozen (p := ⟨wc.heap.size + 1, o, none⟩) hl_V).trans (f_V o)
  replace HX_V := Lib.hid (show Bn W4 (wc.heap.size + 1) by rw [← hW]; exact KpA)
  have k_X_0 : W4.cell? ⟨wd.heap.size, 0, none⟩ = some (.bool (decide ((de).num < 0))) := by rw [← hW]; (first | (go_simp; done) | (simp; done) | (simp [go_sem]; done) | (simp [go_sem, k_A_0, k_A_1, k_A_2, k_U_0, k_U_1, k_U_2, k_V_0, k_V_1, k_V_2, f_A, f_U, f_V, hl_A, hl_U, hl_V]; done))
  have k_X_1 : W4.cell? ⟨wd.heap.size, 1, none⟩ = some (.slice rx (nlen (de).num.natAbs) cx) := by rw [← hW]; (first | (go_simp; done) | (simp; done) | (simp [go_sem]; done) | (simp [go_sem, k_A_0, k_A_1, k_A_2, k_U_0, k_U_1, k_U_2, k_V_0, k_V_1, k_V_2, f_A, f_U, f_V, hl_A, hl_U, hl_V]; done))
  have k_X_2 : W4.cell? ⟨wd.heap.size, 2, none⟩ = some (.slice rx2 (nlen (de).den) cx2) := by rw [← hW]; (first | (go_simp; done) | (simp; done) | (simp [go_sem]; done) | (simp [go_sem, k_A_0, k_A_1, k_A_2, k_U_0, k_U_1, k_U_2, k_V_0, k_V_1, k_V_2, f_A, f_U, f_V, hl_A, hl_U, hl_V]; done))
  have f_X : ∀ o, W4.frozen? ⟨wd.heap.size, o, none⟩ = false := by intro o; rw [← hW]; (first | (go_simp; done) | (simp; done) | (simp [go_sem]; done) | (simp [go_sem, k_A_0, k_A_1, k_A_2, k_U_0, k_U_1, k_U_2, k_V_0, k_V_1, k_V_2, f_A, f_U, f_V, hl_A, hl_U, hl_V]; done))
  have HX_X := Lib.hid (show Bn W4 (wd.heap.size) by rw [← hW]; exact KpA)
  have k_Y_0 : W4.cell? ⟨wd.heap.size + 1, 0, none⟩ = some (.bool (decide ((nu).num < 0))) := by rw [← hW]; (first | (go_simp; done) | (simp; done) | (simp [go_sem]; done) | (simp [go_sem, k_A_0, k_A_1, k_A_2, k_U_0, k_U_1, k_U_2, k_V_0, k_V_1, k_V_2, f_A, f_U, f_V, hl_A, hl_U, hl_V]; done))
  have k_Y_1 : W4.cell? ⟨wd.heap.size + 1, 1, none⟩ = some (.slice ry (nlen (nu).num.natAbs) cy) := by rw [← hW]; (first | (go_simp; done) | (simp; done) | (simp [go_sem]; done) | (simp [go_sem, k_A_0, k_A_1, k_A_2, k_U_0, k_U_1, k_U_2, k_V_0, k_V_1, k_V_2, f_A, f_U, f_V, hl_A, hl_U, hl_V]; done))
  have k_Y_2 : W4.cell? ⟨wd.heap.size + 1, 2, none⟩ = some (.slice ry2 (nlen (nu).den) cy2) := by rw [← hW]; (first | (go_simp; done) | (simp; done) | (simp [go_sem]; done) | (simp [go_sem, k_A_0, k_A_1, k_A_2, k_U_0, k_U_1, k_U_2, k_V_0, k_V_1, k_V_2, f_A, f_U, f_V, hl_A, hl_U, hl_V]; done))
  have f_Y : ∀ o, W4.frozen? ⟨wd.heap.size + 1, o, none⟩ = false := by intro o; rw [← hW]; (first | (go_simp; done) | (simp; done) | (simp [go_sem]; done) | (simp [go_sem, k_A_0, k_A_1, k_A_2, k_U_0, k_U_1, k_U_2, k_V_0, k_V_1, k_V_2, f_A, f_U, f_V, hl_A, hl_U, hl_V]; done))
  have HX_Y := Lib.hid (show Bn W4 (wd.heap.size + 1) by rw [← hW]; exact KpA)
  replace HU1 := Lib.hid (HU1.out.keep HK_W4.out)
  replace HU2 := Lib.hid (HU2.out.keep HK_W4.out)
  replace HV1 := Lib.hid (HV1.out.keep HK_W4.out)
  replace HV2 := Lib.hid (HV2.out.keep HK_W4.out)
  replace HX1 := Lib.hid (HX1.out.keep HK_W4.out)
  replace HX2 := Lib.hid (HX2.out.keep HK_W4.out)
  replace HY1 := Lib.hid (HY1.out.keep HK_W4.out)
  replace HY2 := Lib.hid (HY2.out.keep HK_W4.out)
  replace HB := Lib.hid (show Below w.heap.size w W4 by rw [← hW]; exact BlA)
  replace hN : N ≤ W4.heap.size := by rw [← hW]; (first | omega | (simp; done) | (simp; omega))
  replace hs0 : w.heap.size ≤ W4.heap.size := by rw [← hW]; (first | omega | (simp; done) | (simp; omega))
  replace hl_A : w.heap.size < W4.heap.size := by rw [← hW]; (first | omega | (simp; done) | (simp; omega))
  replace hl_U : wc.heap.size < W4.heap.size := by rw [← hW]; (first | omega | (simp; done) | (simp; omega))
  replace hl_V : wc.heap.size + 1 < W4.heap.size := by rw [← hW]; (first | omega | (simp; done) | (simp; omega))
  have hl_X : wd.heap.size < W4.heap.size := by rw [← hW]; (first | omega | (simp; done) | (simp; omega))
  have hl_Y : wd.heap.size + 1 < W4.heap.size := by rw [← hW]; (first | omega | (simp; done) | (simp; omega))
  replace HT := Lib.hid (HT.out.below HL_W4.out)
  replace HAL := Lib.hid (HAL.out.below HL_W4.out)
  replace HTZ := Lib.hid (HTZ.out.below HL_W4.out)
  replace HTB := Lib.hid (HTB.out.below HL_W4.out)
  clear HL_W4
  clear hW HK_W4
  refine (test_ok (N := N) _ m _ t _ hN HTZ.out (by omega) HBD.out.cnt (HBD.out.sup hm6) P HPP.out).mono ?_
  rintro e we ⟨rt, ct, rt2, ct2, rfl, hn, hn', hb⟩
  have hs_we : W4.heap.size ≤ we.heap.size := hb.size
  replace k_A_0 : we.cell? ⟨w.heap.size, 0, none⟩ = some (.bool s2) := (hb.cell (p := ⟨w.heap.size, 0, none⟩) hl_A).trans k_A_0
  replace k_A_1 : we.cell? ⟨w.heap.size, 1, none⟩ = some (.slice a2 na2 ca2) := (hb.cell (p := ⟨w.heap.size, 1, none⟩) hl_A).trans k_A_1
  replace k_A_2 : we.cell? ⟨w.heap.size, 2, none⟩ = some (.slice d2 nd2 cd2) := (hb.cell (p := ⟨w.heap.size, 2, none⟩) hl_A).trans k_A_2
  replace f_A : ∀ o, we.frozen? ⟨w.heap.size, o, none⟩ = false := fun o => (hb.frozen (p := ⟨w.heap.size, o, none⟩) hl_A).trans (f_A o)
  replace HX_A := Lib.hid (HX_A.out.below hb)
  replace k_U_0 : we.cell? ⟨wc.heap.size, 0, none⟩ = some (.bool (decide ((nu).num < 0))) := (hb.cell (p := ⟨wc.heap.size, 0, none⟩) hl_U).trans k_U_0
  replace k_U_1 : we.cell? ⟨wc.heap.size, 1, none⟩ = some (.slice ru (nlen (nu).num.natAbs) cu) := (hb.cell (p := ⟨wc.heap.size, 1, none⟩) hl_U).trans k_U_1
  replace k_U_2 : we.cell? ⟨wc.heap.size, 2, none⟩ = some (.slice ru2 (nlen (nu).den) cu2) := (hb.cell (p := ⟨wc.heap.size, 2, none⟩) hl_U).trans k_U_2
  replace f_U : ∀ o, we.frozen? ⟨wc.heap.size, o, none⟩ = false := fun o => (hb.frozen (p := ⟨wc.heap.size, o, none⟩) hl_U).trans (f_U o)
  replace HX_U := Lib.hid (HX_U.out.below hb)
  replace k_V_0 : we.cell? ⟨wc.heap.size + 1, 0, none⟩ = some (.bool (decide ((de).num < 0))) := (hb.cell (p := ⟨wc.heap.size + 1, 0, none⟩) hl_V).trans k_V_0
  replace k_V_1 : we.cell? ⟨wc.heap.size + 1, 1, none⟩ = some (.slice rv (nlen (de).num.natAbs) cv) := (hb.cell (p := ⟨wc.heap.size + 1, 1, none⟩) hl_V).trans k_V_1
  replace k_V_2 : we.cell? ⟨wc.heap.size + 1, 2, none⟩ = some (.slice rv2 (nlen (de).den) cv2) := (hb.cell (p := ⟨wc.heap.size + 1, 2, none⟩) hl_V).trans k_V_2
  replace f_V : ∀ o, we.frozen? ⟨wc.heap.size + 1, o, none⟩ = false := fun o => (hb.frozen (p := ⟨wc.heap.size + 1, o, none⟩) hl_V).trans (f_V o)
  replace HX_V := Lib.hid (HX_V.out.below hb)
  replace k_X_0 : we.cell? ⟨wd.heap.size, 0, none⟩ = some (.bool (decide ((de).num < 0))) := (hb.cell (p := ⟨wd.heap.size, 0, none⟩) hl_X).trans k_X_0
  replace k_X_1 : we.cell? ⟨wd.heap.size, 1, none⟩ = some (.slice rx (nlen (de).num.natAbs) cx) := (hb.cell (p := ⟨wd.heap.size, 1, none⟩) hl_X).trans k_X_1
  replace k_X_2 : we.cell? ⟨wd.heap.size, 2, none⟩ = some (.slice rx2 (nlen (de).den) cx2) := (hb.cell (p := ⟨wd.heap.size, 2, none⟩) hl_X).trans k_X_2
  replace f_X : ∀ o, we.frozen? ⟨wd.heap.size, o, none⟩ = false := fun o => (hb.frozen (p := ⟨wd.heap.size, o, none⟩) hl_X).trans (f_X o)
  replace HX_X := Lib.hid (HX_X.out.below hb)
  replace k_Y_0 : we.cell? ⟨wd.heap.size + 1, 0, none⟩ = some (.bool (decide ((nu).num < 0))) := (hb.cell (p := ⟨wd.heap.size + 1, 0, none⟩) hl_Y).trans k_Y_0
  replace k_Y_1 : we.cell? ⟨wd.heap.size + 1, 1, none⟩ = some (.slice ry (nlen (nu).num.natAbs) cy) := (hb.cell (p := ⟨wd.heap.size + 1, 1, none⟩) hl_Y).trans k_Y_1
  replace k_Y_2 : we.cell? ⟨wd.heap.size + 1, 2, none⟩ = some (.slice ry2 (nlen (nu).den) cy2) := (hb.cell (p := ⟨wd.heap.size + 1, 2, none⟩) hl_Y).trans k_Y_2
  replace f_Y : ∀ o, we.frozen? ⟨wd.heap.size + 1, o, none⟩ = false := fun o => (hb.frozen (p := ⟨wd.heap.size + 1, o, none⟩) hl_Y).trans (f_Y o)
  replace HX_Y := Lib.hid (HX_Y.out.below hb)
  replace HU1 := Lib.hid (HU1.out.below hb)
  replace HU2 := Lib.hid (HU2.out.below hb)
  replace HV1 := Lib.hid (HV1.out.below hb)
  replace HV2 := Lib.hid (HV2.out.below hb)
  replace HX1 := Lib.hid (HX1.out.below hb)
  replace HX2 := Lib.hid (HX2.out.below hb)
  replace HY1 := Lib.hid (HY1.out.below hb)
  replace HY2 := Lib.hid (HY2.out.below hb)
  replace HB := Lib.hid (HB.out.trans (hb.mono hs0))
  replace hN : N ≤ we.heap.size := Nat.le_trans hN hb.size
  replace hs0 : w.heap.size ≤ we.heap.size := Nat.le_trans hs0 hb.size
  replace hl_A : w.heap.size < we.heap.size := Nat.lt_of_lt_of_le hl_A hb.size
  replace hl_U : wc.heap.size < we.heap.size := Nat.lt_of_lt_of_le hl_U hb.size
  replace hl_V : wc.heap.size + 1 < we.heap.size := Nat.lt_of_lt_of_le hl_V hb.size
  replace hl_X : wd.heap.size < we.heap.size := Nat.lt_of_lt_of_le hl_X hb.size
  replace hl_Y : wd.heap.size + 1 < we.heap.size := Nat.lt_of_lt_of_le hl_Y hb.size
  replace HT := Lib.hid (HT.out.below hb)
  replace HAL := Lib.hid (HAL.out.below hb)
  replace HTZ := Lib.hid (HTZ.out.below hb)
  replace HTB := Lib.hid (HTB.out.below hb)
  clear hb
  have HPA := Lib.hid hn
  clear hn
  have HPC := Lib.hid hn'
  clear hn'
  go_wp2_with fail
  refine calls_name fun W5 hW => ?_
  have HL_W5 := Lib.hid (show Below we.heap.size we W5 by rw [← hW]; exact BlA)
  have hs_W5 : we.heap.size ≤ W5.heap.size := by rw [← hW]; (first | omega | (simp; done) | (simp; omega))
  have hd_A_P : w.heap.size < we.heap.size := by omega
  have hd_U_P : wc.heap.size < we.heap.size := by omega
  have hd_V_P : wc.heap.size + 1 < we.heap.size := by omega
  have hd_X_P : wd.heap.size < we.heap.size := by omega
  have hd_Y_P : wd.heap.size + 1 < we.heap.size := by omega
  have HK_W5 := Lib.hid (show Kp N we W5 by rw [← hW]; exact KpA)
  replace k_A_0 : W5.cell? ⟨w.heap.size, 0, none⟩ = some (.bool s2) := (HL_W5.out.cell (p := ⟨w.heap.size, 0, none⟩) hl_A).trans k_A_0
  replace k_A_1 : W5.cell? ⟨w.heap.size, 1, none⟩ = some (.slice a2 na2 ca2) := (HL_W5.out.cell (p := ⟨w.heap.size, 1, none⟩) hl_A).trans k_A_1
  replace k_A_2 : W5.cell? ⟨w.heap.size, 2, none⟩ = some (.slice d2 nd2 cd2) := (HL_W5.out.cell (p := ⟨w.heap.size, 2, none⟩) hl_A).trans k_A_2
  replace f_A : ∀ o, W5.frozen? ⟨w.heap.size, o, none⟩ = false := fun o => (HL_W5.out.frozen (p := ⟨w.heap.size, o, none⟩) hl_A).trans (f_A o)
  replace HX_A := Lib.hid (show Bn W5 (w.heap.size) by rw [← hW]; exact KpA)
  replace k_U_0 : W5.cell? ⟨wc.heap.size, 0, none⟩ = some (.bool (decide ((nu).num < 0))) := (HL_W5.out.cell (p := ⟨wc.heap.size, 0, none⟩) hl_U).trans k_U_0
  replace k_U_1 : W5.cell? ⟨wc.heap.size, 1, none⟩ = some (.slice ru (nlen (nu).num.natAbs) cu) := (HL_W5.out.cell (p := ⟨wc.heap.size, 1, none⟩) hl_U).trans k_U_1
  replace k_U_2 : W5.cell? ⟨wc.heap.size, 2, none⟩ = some (.slice ru2 (nlen (nu).den) cu2) := (HL_W5.out.cell (p := ⟨wc.heap.size, 2, none⟩) hl_U).trans k_U_2
  replace f_U : ∀ o, W5.frozen? ⟨wc.heap.size, o, none⟩ = false := fun o => (HL_W5.out.frozen (p := ⟨wc.heap.size, o, none⟩) hl_U).trans (f_U o)
  replace HX_U := Lib.hid (show Bn W5 (wc.heap.size) by rw [← hW]; exact KpA)
  replace k_V_0 : W5.cell? ⟨wc.heap.size + 1, 0, none⟩ = some (.bool (decide ((de).num < 0))) := (HL_W5.out.cell (p := ⟨wc.heap.size + 1, 0, none⟩) hl_V).trans k_V_0
  replace k_V_1 : W5.cell? ⟨wc.heap.size + 1, 1, none⟩ = some (.slice rv (nlen (de).num.natAbs) cv) := (HL_W5.out.cell (p := ⟨wc.heap.size + 1, 1, none⟩) hl_V).trans k_V_1
  replace k_V_2 : W5.cell? ⟨wc.heap.size + 1, 2, none⟩ = some (.slice rv2 (nlen (de).den) cv2) := (HL_W5.out.cell (p := ⟨wc.heap.size + 1, 2, none⟩) hl_V).trans k_V_2
  replace f_V : ∀ o, W5.frozen? ⟨wc.heap.size + 1, o, none⟩ = false := fun o => (HL_W5.out.frozen (p := ⟨wc.heap.size + 1, o, none⟩) hl_V).trans (f_V o)
  replace HX_V := Lib.hid (show Bn W5 (wc.heap.size + 1) by rw [← hW]; exact KpA)
  replace k_X_0 : W5.cell? ⟨wd.heap.size, 0, none⟩ = some (.bool (decide ((de).num < 0))) := (HL_W5.out.cell (p := ⟨wd.heap.size, 0, none⟩) hl_X).trans k_X_0
  replace k_X_1 : W5.cell? ⟨wd.heap.size, 1, none⟩ = some (.slice rx (nlen (de).num.natAbs) cx) := (HL_W5.out.cell (p := ⟨wd.heap.size, 1, none⟩) hl_X).trans k_X_1
  replace k_X_2 : W5.cell? ⟨wd.heap.size, 2, none⟩ = some (.slice rx2 (nlen (de).den) cx2) := (HL_W5.out.cell (p := ⟨wd.heap.size, 2, none⟩) hl_X).trans k_X_2
  replace f_X : ∀ o, W5.frozen? ⟨wd.heap.size, o, none⟩ = false := fun o => (HL_W5.out.frozen (p := ⟨wd.heap.size, o, none⟩) hl_X).trans (f_X o)
  replace HX_X := Lib.hid (show Bn W5 (wd.heap.size) by rw [← hW]; exact KpA)
  replace k_Y_0 : W5.cell? ⟨wd.heap.size + 1, 0, none⟩ = some (.bool (decide ((nu).num < 0))) := (HL_W5.out.cell (p := ⟨wd.heap.size + 1, 0, none⟩) hl_Y).trans k_Y_0
  replace k_Y_1 : W5.cell? ⟨wd.heap.size + 1, 1, none⟩ = some (.slice ry (nlen (nu).num.natAbs) cy) := (HL_W5.out.cell (p := ⟨wd.heap.size + 1, 1, none⟩) hl_Y).trans k_Y_1
  replace k_Y_2 : W5.cell? ⟨wd.heap.size + 1, 2, none⟩ = some (.slice ry2 (nlen (nu).den) cy2) := (HL_W5.out.cell (p := ⟨wd.heap.size + 1, 2, none⟩) hl_Y).trans k_Y_2
  replace f_Y : ∀ o, W5.frozen? ⟨wd.heap.size + 1, o, none⟩ = false := fun o => (HL_W5.out.frozen (p := ⟨wd.heap.size + 1, o, none⟩) hl_Y).trans (f_Y o)
  replace HX_Y := Lib.hid (show Bn W5 (wd.heap.size + 1) by rw [← hW]; exact KpA)
  have k_P_0 : W5.cell? ⟨we.heap.size, 0, none⟩ = some (.bool (decide ((P).num < 0))) := by rw [← hW]; (first | (go_simp; done) | (simp; done) | (simp [go_sem]; done) | (simp [go_sem, k_A_0, k_A_1, k_A_2, k_U_0, k_U_1, k_U_2, k_V_0, k_V_1, k_V_2, k_X_0, k_X_1, k_X_2, k_Y_0, k_Y_1, k_Y_2, f_A, f_U, f_V, f_X, f_Y, hl_A, hl_U, hl_V, hl_X, hl_Y]; done))
  have k_P_1 : W5.cell? ⟨we.heap.size, 1, none⟩ = some (.slice rt (nlen (P).num.natAbs) ct) := by rw [← hW]; (first | (go_simp; done) | (simp; done) | (simp [go_sem]; done) | (simp [go_sem, k_A_0, k_A_1, k_A_2, k_U_0, k_U_1, k_U_2, k_V_0, k_V_1, k_V_2, k_X_0, k_X_1, k_X_2, k_Y_0, k_Y_1, k_Y_2, f_A, f_U, f_V, f_X, f_Y, hl_A, hl_U, hl_V, hl_X, hl_Y]; done))
  have k_P_2 : W5.cell? ⟨we.heap.size, 2, none⟩ = some (.slice rt2 (nlen (P).den) ct2) := by rw [← hW]; (first | (go_simp; done) | (simp; done) | (simp [go_sem]; done) | (simp [go_sem, k_A_0, k_A_1, k_A_2, k_U_0, k_U_1, k_U_2, k_V_0, k_V_1, k_V_2, k_X_0, k_X_1, k_X_2, k_Y_0, k_Y_1, k_Y_2, f_A, f_U, f_V, f_X, f_Y, hl_A, hl_U, hl_V, hl_X, hl_Y]; done))
  have f_P : ∀ o, W5.frozen? ⟨we.heap.size, o, none⟩ = false := by intro o; rw [← hW]; (first | (go_simp; done) | (simp; done) | (simp [go_sem]; done) | (simp [go_sem, k_A_0, k_A_1, k_A_2, k_U_0, k_U_1, k_U_2, k_V_0, k_V_1, k_V_2, k_X_0, k_X_1, k_X_2, k_Y_0, k_Y_1, k_Y_2, f_A, f_U, f_V, f_X, f_Y, hl_A, hl_U, hl_V, hl_X, hl_Y]; done))
  have HX_P := Lib.hid (show Bn W5 (we.heap.size) by rw [← hW]; exact KpA)
  replace HU1 := Lib.hid (HU1.out.keep HK_W5.out)
  replace HU2 := Lib.hid (HU2.out.keep HK_W5.out)
  replace HV1 := Lib.hid (HV1.out.keep HK_W5.out)
  replace HV2 := Lib.hid (HV2.out.keep HK_W5.out)
  replace HX1 := Lib.hid (HX1.out.keep HK_W5.out)
  replace HX2 := Lib.hid (HX2.out.keep HK_W5.out)
  replace HY1 := Lib.hid (HY1.out.keep HK_W5.out)
  replace HY2 := Lib.hid (HY2.out.keep HK_W5.out)
  replace HPA := Lib.hid (HPA.out.keep HK_W5.out)
  replace HPC := Lib.hid (HPC.out.keep HK_W5.out)
  replace HB := Lib.hid (show Below w.heap.size w W5 by rw [← hW]; exact BlA)
  replace hN : N ≤ W5.heap.size := by rw [← hW]; (first | omega | (simp; done) | (simp; omega))
  replace hs0 : w.heap.size ≤ W5.heap.size := by rw [← hW]; (first | omega | (simp; done) | (simp; omega))
  replace hl_A : w.heap.size < W5.heap.size := by rw [← hW]; (first | omega | (simp; done) | (simp; omega))
  replace hl_U : wc.heap.size < W5.heap.size := by rw [← hW]; (first | omega | (simp; done) | (simp; omega))
  replace hl_V : wc.heap.size + 1 < W5.heap.size := by rw [← hW]; (first | omega | (simp; done) | (simp; omega))
  replace hl_X : wd.heap.size < W5.heap.size := by rw [← hW]; (first | omega | (simp; done) | (simp; omega))
  replace hl_Y : wd.heap.size + 1 < W5.heap.size := by rw [← hW]; (first | omega | (simp; done) | (simp; omega))
  have hl_P : we.heap.size < W5.heap.size := by rw [← hW]; (first | omega | (simp; done) | (simp; omega))
  replace HT := Lib.hid (HT.out.below HL_W5.out)
  replace HAL := Lib.hid (HAL.out.below HL_W5.out)
  replace HTZ := Lib.hid (HTZ.out.below HL_W5.out)
  replace HTB := Lib.hid (HTB.out.below HL_W5.out)
  clear HL_W5
  clear hW HK_W5
  refine (test_ok (N := N) _ m _ (swS t) _ hN HTB.out (by omega) HBD.out.sw.cnt (HBD.out.sw.sup hm6) P HPP2.out).mono ?_
  rintro e wf ⟨rq, cq, rq2, cq2, rfl, hn, hn', hb⟩
  have hs_wf : W5.heap.size ≤ wf.heap.size := hb.size
  replace k_A_0 : wf.cell? ⟨w.heap.size, 0, none⟩ = some (.bool s2) := (hb.cell (p := ⟨w.heap.size, 0, none⟩) hl_A).trans k_A_0
  replace k_A_1 : wf.cell? ⟨w.heap.size, 1, none⟩ = some (.slice a2 na2 ca2) := (hb.cell (p := ⟨w.heap.size, 1, none⟩) hl_A).trans k_A_1
  replace k_A_2 : wf.cell? ⟨w.heap.size, 2, none⟩ = some (.slice d2 nd2 cd2) := (hb.cell (p := ⟨w.heap.size, 2, none⟩) hl_A).trans k_A_2
  replace f_A : ∀ o, wf.frozen? ⟨w.heap.size, o, none⟩ = false := fun o => (hb.frozen (p := ⟨w.heap.size, o, none⟩) hl_A).trans (f_A o)
  replace HX_A := Lib.hid (HX_A.out.below hb)
  replace k_U_0 : wf.cell? ⟨wc.heap.size, 0, none⟩ = some (.bool (decide ((nu).num < 0))) := (hb.cell (p := ⟨wc.heap.size, 0, none⟩) hl_U).trans k_U_0
  replace k_U_1 : wf.cell? ⟨wc.heap.size, 1, none⟩ = some (.slice ru (nlen (nu).num.natAbs) cu) := (hb.cell (p := ⟨wc.heap.size, 1, none⟩) hl_U).trans k_U_1
  replace k_U_2 : wf.cell? ⟨wc.heap.size, 2, none⟩ = some (.slice ru2 (nlen (nu).den) cu2) := (hb.cell (p := ⟨wc.heap.size, 2, none⟩) hl_U).trans k_U_2
  replace f_U : ∀ o, wf.frozen? ⟨wc.heap.size, o, none⟩ = false := fun o => (hb.frozen (p := ⟨wc.heap.size, o, none⟩) hl_U).trans (f_U o)
  replace HX_U := Lib.hid (HX_U.out.below hb)
  replace k_V_0 : wf.cell? ⟨wc.heap.size + 1, 0, none⟩ = some (.bool (decide ((de).num < 0))) := (hb.cell (p := ⟨wc.heap.size + 1, 0, none⟩) hl_V).trans k_V_0
  replace k_V_1 : wf.cell? ⟨wc.heap.size + 1, 1, none⟩ = some (.slice rv (nlen (de).num.natAbs) cv) := (hb.cell (p := ⟨wc.heap.size + 1, 1, none⟩) hl_V).trans k_V_1
  replace k_V_2 : wf.cell? ⟨wc.heap.size + 1, 2, none⟩ = some (.slice rv2 (nlen (de).den) cv2) := (hb.cell (p := ⟨wc.heap.size + 1, 2, none⟩) hl_V).trans k_V_2
  replace f_V : ∀ o, wf.frozen? ⟨wc.heap.size + 1, o, none⟩ = false := fun o => (hb.frozen (p := ⟨wc.heap.size + 1, o, none⟩) hl_V).trans (f_V o)
  replace HX_V := Lib.hid (HX_V.out.below hb)
  replace k_X_0 : wf.cell? ⟨wd.heap.size, 0, none⟩ = some (.bool (decide ((de).num < 0))) := (hb.cell (p := ⟨wd.heap.size, 0, none⟩) hl_X).trans k_X_0
  replace k_X_1 : wf.cell? ⟨wd.heap.size, 1, none⟩ = some (.slice rx (nlen (de).num.natAbs) cx) := (hb.cell (p := ⟨wd.heap.size, 1, none⟩) hl_X).trans k_X_1
  replace k_X_2 : wf.cell? ⟨wd.heap.size, 2, none⟩ = some (.slice rx2 (nlen (de).den) cx2) := (hb.cell (p := ⟨wd.heap.size, 2, none⟩) hl_X).trans k_X_2
  replace f_X : ∀ o, wf.frozen? ⟨wd.heap.size, o, none⟩ = false := fun o => (hb.frozen (p := ⟨wd.heap.size, o, none⟩) hl_X).trans (f_X o)
  replace HX_X := Lib.hid (HX_X.out.below hb)
  replace k_Y_0 : wf.cell? ⟨wd.heap.size + 1, 0, none⟩ = some (.bool (decide ((nu).num < 0))) := (hb.cell (p := ⟨wd.heap.size + 1, 0, none⟩) hl_Y).trans k_Y_0
  replace k_Y_1 : wf.cell? ⟨wd.heap.size + 1, 1, none⟩ = some (.slice ry (nlen (nu).num.natAbs) cy) := (hb.cell (p := ⟨wd.heap.size + 1, 1, none⟩) hl_Y).trans k_Y_1
  replace k_Y_2 : wf.cell? ⟨wd.heap.size + 1, 2, none⟩ = some (.slice ry2 (nlen (nu).den) cy2) := (hb.cell (p := ⟨wd.heap.size + 1, 2, none⟩) hl_Y).trans k_Y_2
  replace f_Y : ∀ o, wf.frozen? ⟨wd.heap.size + 1, o, none⟩ = false := fun o => (hb.frozen (p := ⟨wd.heap.size + 1, o, none⟩) hl_Y).trans (f_Y o)
  replace HX_Y := Lib.hid (HX_Y.out.below hb)
  replace k_P_0 : wf.cell? ⟨we.heap.size, 0, none⟩ = some (.bool (decide ((P).num < 0))) := (hb.cell (p := ⟨we.heap.size, 0, none⟩) hl_P).trans k_P_0
  replace k_P_1 : wf.cell? ⟨we.heap.size, 1, none⟩ = some (.slice rt (nlen (P).num.natAbs) ct) := (hb.cell (p := ⟨we.heap.size, 1, none⟩) hl_P).trans k_P_1
  replace k_P_2 : wf.cell? ⟨we.heap.size, 2, none⟩ = some (.slice rt2 (nlen (P).den) ct2) := (hb.cell (p := ⟨we.heap.size, 2, none⟩) hl_P).trans k_P_2
  replace f_P : ∀ o, wf.frozen? ⟨we.heap.size, o, none⟩ = false := fun o => (hb.frozen (p := ⟨we.heap.size, o, none⟩) hl_P).trans (f_P o)
  replace HX_P := Lib.hid (HX_P.out.below hb)
  replace HU1 := Lib.hid (HU1.out.below hb)
  replace HU2 := Lib.hid (HU2.out.below hb)
  replace HV1 := Lib.hid (HV1.out.below hb)
  replace HV2 := Lib.hid (HV2.out.below hb)
  replace HX1 := Lib.hid (HX1.out.below hb)
  replace HX2 := Lib.hid (HX2.out.below hb)
  replace HY1 := Lib.hid (HY1.out.below hb)
  replace HY2 := Lib.hid (HY2.out.below hb)
  replace HPA := Lib.hid (HPA.out.below hb)
  replace HPC := Lib.hid (HPC.out.below hb)
  replace HB := Lib.hid (HB.out.trans (hb.mono hs0))
  replace hN : N ≤ wf.heap.size := Nat.le_trans hN hb.size
  replace hs0 : w.heap.size ≤ wf.heap.size := Nat.le_trans hs0 hb.size
  replace hl_A : w.heap.size < wf.heap.size := Nat.lt_of_lt_of_le hl_A hb.size
  replace hl_U : wc.heap.size < wf.heap.size := Nat.lt_of_lt_of_le hl_U hb.size
  replace hl_V : wc.heap.size + 1 < wf.heap.size := Nat.lt_of_lt_of_le hl_V hb.size
  replace hl_X : wd.heap.size < wf.heap.size := Nat.lt_of_lt_of_le hl_X hb.size
  replace hl_Y : wd.heap.size + 1 < wf.heap.size := Nat.lt_of_lt_of_le hl_Y hb.size
  replace hl_P : we.heap.size < wf.heap.size := Nat.lt_of_lt_of_le hl_P hb.size
  replace HT := Lib.hid (HT.out.below hb)
  replace HAL := Lib.hid (HAL.out.below hb)
  replace HTZ := Lib.hid (HTZ.out.below hb)
  replace HTB := Lib.hid (HTB.out.below hb)
  clear hb
  have HQA := Lib.hid hn
  clear hn
  have HQB := Lib.hid hn'
  clear hn'
  go_wp2_with fail
  refine calls_name fun W6 hW => ?_
  have HL_W6 := Lib.hid (show Below wf.heap.size wf W6 by rw [← hW]; exact BlA)
  have hs_W6 : wf.heap.size ≤ W6.heap.size := by rw [← hW]; (first | omega | (simp; done) | (simp; omega))
  have hd_A_Q : w.heap.size < wf.heap.size := by omega
  have hd_U_Q : wc.heap.size < wf.heap.size := by omega
  have hd_V_Q : wc.heap.size + 1 < wf.heap.size := by omega
  have hd_X_Q : wd.heap.size < wf.heap.size := by omega
  have hd_Y_Q : wd.heap.size + 1 < wf.heap.size := by omega
  have hd_P_Q : we.heap.size < wf.heap.size := by omega
  have HK_W6 := Lib.hid (show Kp N wf W6 by rw [← hW]; exact KpA)
  replace k_A_0 : W6.cell? ⟨w.heap.size, 0, none⟩ = some (.bool s2) := (HL_W6.out.cell (p := ⟨w.heap.size, 0, none⟩) hl_A).trans k_A_0
  replace k_A_1 : W6.cell? ⟨w.heap.size, 1, none⟩ = some (.slice a2 na2 ca2) := (HL_W6.out.cell (p := ⟨w.heap.size, 1, none⟩) hl_A).trans k_A_1
  replace k_A_2 : W6.cell? ⟨w.heap.size, 2, none⟩ = some (.slice d2 nd2 cd2) := (HL_W6.out.cell (p := ⟨w.heap.size, 2, none⟩) hl_A).trans k_A_2
  replace f_A : ∀ o, W6.frozen? ⟨w.heap.size, o, none⟩ = false := fun o => (HL_W6.out.frozen (p := ⟨w.heap.size, o, none⟩) hl_A).trans (f_A o)
  replace HX_A := Lib.hid (show Bn W6 (w.heap.size) by rw [← hW]; exact KpA)
  replace k_U_0 : W6.cell? ⟨wc.heap.size, 0, none⟩ = some (.bool (decide ((nu).num < 0))) := (HL_W6.out.cell (p := ⟨wc.heap.size, 0, none⟩) hl_U).trans k_U_0
  replace k_U_1 : W6.cell? ⟨wc.heap.size, 1, none⟩ = some (.slice ru (nlen (nu).num.natAbs) cu) := (HL_W6.out.cell (p := ⟨wc.heap.size, 1, none⟩) hl_U).trans k_U_1
  replace k_U_2 : W6.cell? ⟨wc.heap.size, 2, none⟩ = some (.slice ru2 (nlen (nu).den) cu2) := (HL_W6.out.cell (p := ⟨wc.heap.size, 2, none⟩) hl_U).trans k_U_2
  replace f_U : ∀ o, W6.frozen? ⟨wc.heap.size, o, none⟩ = false := fun o => (HL_W6.out.frozen (p := ⟨wc.heap.size, o, none⟩) hl_U).trans (f_U o)
  replace HX_U := Lib.hid (show Bn W6 (wc.heap.size) by rw [← hW]; exact KpA)
  replace k_V_0 : W6.cell? ⟨wc.heap.size + 1, 0, none⟩ = some (.bool (decide ((de).num < 0))) := (HL_W6.out.cell (p := ⟨wc.heap.size + 1, 0, none⟩) hl_V).trans k_V_0
  replace k_V_1 : W6.cell? ⟨wc.heap.size + 1, 1, none⟩ = some (.slice rv (nlen (de).num.natAbs) cv) := (HL_W6.out.cell (p := ⟨wc.heap.size + 1, 1, none⟩) hl_V).trans k_V_1
  replace k_V_2 : W6.cell? ⟨wc.heap.size + 1, 2, none⟩ = some (.slice rv2 (nlen (de).den) cv2) := (HL_W6.out.cell (p := ⟨wc.heap.size + 1, 2, none⟩) hl_V).trans k_V_2
  replace f_V : ∀ o, W6.frozen? ⟨wc.heap.size + 1, o, none⟩ = false := fun o => (HL_W6.out.frozen (p := ⟨wc.heap.size + 1, o, none⟩) hl_V).trans (f_V o)
  replace HX_V := Lib.hid (show Bn W6 (wc.heap.size + 1) by rw [← hW]; exact KpA)
  replace k_X_0 : W6.cell? ⟨wd.heap.size, 0, none⟩ = some (.bool (decide ((de).num < 0))) := (HL_W6.out.cell (p := ⟨wd.heap.size, 0, none⟩) hl_X).trans k_X_0
  replace k_X_1 : W6.cell? ⟨wd.heap.size, 1, none⟩ = some (.slice rx (nlen (de).num.natAbs) cx) := (HL_W6.out.cell (p := ⟨wd.heap.size, 1, none⟩) hl_X).trans k_X_1
  replace k_X_2 : W6.cell? ⟨wd.heap.size, 2, none⟩ = some (.slice rx2 (nlen (de).den) cx2) := (HL_W6.out.cell (p := ⟨wd.heap.size, 2, none⟩) hl_X).trans k_X_2
  replace f_X : ∀ o, W6.frozen? ⟨wd.heap.size, o, none⟩ = false := fun o => (HL_W6.out.frozen (p := ⟨wd.heap.size, o, none⟩) hl_X).trans (f_X o)
  replace HX_X := Lib.hid (show Bn W6 (wd.heap.size) by rw [← hW]; exact KpA)
  replace k_Y_0 : W6.cell? ⟨wd.heap.size + 1, 0, none⟩ = some (.bool (decide ((nu).num < 0))) := (HL_W6.out.cell (p := ⟨wd.heap.size + 1, 0, none⟩) hl_Y).trans k_Y_0
  replace k_Y_1 : W6.cell? ⟨wd.heap.size + 1, 1, none⟩ = some (.slice ry (nlen (nu).num.natAbs) cy) := (HL_W6.out.cell (p := ⟨wd.heap.size + 1, 1, none⟩) hl_Y).trans k_Y_1
  replace k_Y_2 : W6.cell? ⟨wd.heap.size + 1, 2, none⟩ = some (.slice ry2 (nlen (nu).den) cy2) := (HL_W6.out.cell (p := ⟨wd.heap.size + 1, 2, none⟩) hl_Y).trans k_Y_2
  replace f_Y : ∀ o, W6.frozen? ⟨wd.heap.size + 1, o, none⟩ = false := fun o => (HL_W6.out.frozen (p := ⟨wd.heap.size + 1, o, none⟩) hl_Y).trans (f_Y o)
  replace HX_Y := Lib.hid (show Bn W6 (wd.heap.size + 1) by rw [← hW]; exact KpA)
  replace k_P_0 : W6.cell? ⟨we.heap.size, 0, none⟩ = some (.bool (decide ((P).num < 0))) := (HL_W6.out.cell (p := ⟨we.heap.size, 0, none⟩) hl_P).trans k_P_0
  replace k_P_1 : W6.cell? ⟨we.heap.size, 1, none⟩ = some (.slice rt (nlen (P).num.natAbs) ct) := (HL_W6.out.cell (p := ⟨we.heap.size, 1, none⟩) hl_P).trans k_P_1
  replace k_P_2 : W6.cell? ⟨we.heap.size, 2, none⟩ = some (.slice rt2 (nlen (P).den) ct2) := (HL_W6.out.cell (p := ⟨we.heap.size, 2, none⟩) hl_P).trans k_P_2
  replace f_P : ∀ o, W6.frozen? ⟨we.heap.size, o, none⟩ = false := fun o => (HL_W6.out.frozen (p := ⟨we.heap.size, o, none⟩) hl_P).trans (f_P o)
  replace HX_P := Lib.hid (show Bn W6 (we.heap.size) by rw [← hW]; exact KpA)
  have k_Q_0 : W6.cell? ⟨wf.heap.size, 0, none⟩ = some (.bool (decide ((P).num < 0))) := by rw [← hW]; (first | (go_simp; done) | (simp; done) | (simp [go_sem]; done) | (simp [go_sem, k_A_0, k_A_1, k_A_2, k_U_0, k_U_1, k_U_2, k_V_0, k_V_1, k_V_2, k_X_0, k_X_1, k_X_2, k_Y_0, k_Y_1, k_Y_2, k_P_0, k_P_1, k_P_2, f_A, f_U, f_V, f_X, f_Y, f_P, hl_A, hl_U, hl_V, hl_X, hl_Y, hl_P]; done))
  have k_Q_1 : W6.cell? ⟨wf.heap.size, 1, none⟩ = some (.slice rq (nlen (P).num.natAbs) cq) := by rw [← hW]; (first | (go_simp; done) | (simp; done) | (simp [go_sem]; done) | (simp [go_sem, k_A_0, k_A_1, k_A_2, k_U_0, k_U_1, k_U_2, k_V_0, k_V_1, k_V_2, k_X_0, k_X_1, k_X_2, k_Y_0, k_Y_1, k_Y_2, k_P_0, k_P_1, k_P_2, f_A, f_U, f_V, f_X, f_Y, f_P, hl_A, hl_U, hl_V, hl_X, hl_Y, hl_P]; done))
  have k_Q_2 : W6.cell? ⟨wf.heap.size, 2, none⟩ = some (.slice rq2 (nlen (P).den) cq2) := by rw [← hW]; (first | (go_simp; done) | (simp; done) | (simp [go_sem]; done) | (simp [go_sem, k_A_0, k_A_1, k_A_2, k_U_0, k_U_1, k_U_2, k_V_0, k_V_1, k_V_2, k_X_0, k_X_1, k_X_2, k_Y_0, k_Y_1, k_Y_2, k_P_0, k_P_1, k_P_2, f_A, f_U, f_V, f_X, f_Y, f_P, hl_A, hl_U, hl_V, hl_X, hl_Y, hl_P]; done))
  have f_Q : ∀ o, W6.frozen? ⟨wf.heap.size, o, none⟩ = false := by intro o; rw [← hW]; (first | (go_simp; done) | (simp; done) | (simp [go_sem]; done) | (simp [go_sem, k_A_0, k_A_1, k_A_2, k_U_0, k_U_1, k_U_2, k_V_0, k_V_1, k_V_2, k_X_0, k_X_1, k_X_2, k_Y_0, k_Y_1, k_Y_2, k_P_0, k_P_1, k_P_2, f_A, f_U, f_V, f_X, f_Y, f_P, hl_A, hl_U, hl_V, hl_X, hl_Y, hl_P]; done))
  have HX_Q := Lib.hid (show Bn W6 (wf.heap.size) by rw [← hW]; exact KpA)
  replace HU1 := Lib.hid (HU1.out.keep HK_W6.out)
  replace HU2 := Lib.hid (HU2.out.keep HK_W6.out)
  replace HV1 := Lib.hid (HV1.out.keep HK_W6.out)
  replace HV2 := Lib.hid (HV2.out.keep HK_W6.out)
  replace HX1 := Lib.hid (HX1.out.keep HK_W6.out)
  replace HX2 := Lib.hid (HX2.out.keep HK_W6.out)
  replace HY1 := Lib.hid (HY1.out.keep HK_W6.out)
  replace HY2 := Lib.hid (HY2.out.keep HK_W6.out)
  replace HPA := Lib.hid (HPA.out.keep HK_W6.out)
  replace HPC := Lib.hid (HPC.out.keep HK_W6.out)
  replace HQA := Lib.hid (HQA.out.keep HK_W6.out)
  replace HQB := Lib.hid (HQB.out.keep HK_W6.out)
  replace HB := Lib.hid (show Below w.heap.size w W6 by rw [← hW]; exact BlA)
  replace hN : N ≤ W6.heap.size := by rw [← hW]; (first | omega | (simp; done) | (simp; omega))
  replace hs0 : w.heap.size ≤ W6.heap.size := by rw [← hW]; (first | omega | (simp; done) | (simp; omega))
  replace hl_A : w.heap.size < W6.heap.size := by rw [← hW]; (first | omega | (simp; done) | (simp; omega))
  replace hl_U : wc.heap.size < W6.heap.size := by rw [← hW]; (first | omega | (simp; done) | (simp; omega))
  replace hl_V : wc.heap.size + 1 < W6.heap.size := by rw [← hW]; (first | omega | (simp; done) | (simp; omega))
  replace hl_X : wd.heap.size < W6.heap.size := by rw [← hW]; (first | omega | (simp; done) | (simp; omega))
  replace hl_Y : wd.heap.size + 1 < W6.heap.size := by rw [← hW]; (first | omega | (simp; done) | (simp; omega))
  replace hl_P : we.heap.size < W6.heap.size := by rw [← hW]; (first | omega | (simp; done) | (simp; omega))
  have hl_Q : wf.heap.size < W6.heap.size := by rw [← hW]; (first | omega | (simp; done) | (simp; omega))
  replace HT := Lib.hid (HT.out.below HL_W6.out)
  replace HAL := Lib.hid (HAL.out.below HL_W6.out)
  replace HTZ := Lib.hid (HTZ.out.below HL_W6.out)
  replace HTB := Lib.hid (HTB.out.below HL_W6.out)
  clear HL_W6
  clear hW HK_W6
  refine (equal30_any (N := N) _ _ _ _ _ _ nu.num.natAbs _ nu.den _ _ _ _ _ HU1.out HU2.out HY1.out HY2.out).mono ?_
  rintro e wg ⟨rfl, hb⟩
  have hs_wg : W6.heap.size ≤ wg.heap.size := hb.size
  replace k_A_0 : wg.cell? ⟨w.heap.size, 0, none⟩ = some (.bool s2) := (hb.cell (p := ⟨w.heap.size, 0, none⟩) hl_A).trans k_A_0
  replace k_A_1 : wg.cell? ⟨w.heap.size, 1, none⟩ = some (.slice a2 na2 ca2) := (hb.cell (p := ⟨w.heap.size, 1, none⟩) hl_A).trans k_A_1
  replace k_A_2 : wg.cell? ⟨w.heap.size, 2, none⟩ = some (.slice d2 nd2 cd2) := (hb.cell (p := ⟨w.heap.size, 2, none⟩) hl_A).trans k_A_2
  replace f_A : ∀ o, wg.frozen? ⟨w.heap.size, o, none⟩ = false := fun o => (hb.frozen (p := ⟨w.heap.size, o, none⟩) hl_A).trans (f_A o)
  replace HX_A := Lib.hid (HX_A.out.below hb)
  replace k_U_0 : wg.cell? ⟨wc.heap.size, 0, none⟩ = some (.bool (decide ((nu).num < 0))) := (hb.cell (p := ⟨wc.heap.size, 0, none⟩) hl_U).trans k_U_0
  replace k_U_1 : wg.cell? ⟨wc.heap.size, 1, none⟩ = some (.slice ru (nlen (nu).num.natAbs) cu) := (hb.cell (p := ⟨wc.heap.size, 1, none⟩) hl_U).trans k_U_1
  replace k_U_2 : wg.cell? ⟨wc.heap.size, 2, none⟩ = some (.slice ru2 (nlen (nu).den) cu2) := (hb.cell (p := ⟨wc.heap.size, 2, none⟩) hl_U).trans k_U_2
  replace f_U : ∀ o, wg.frozen? ⟨wc.heap.size, o, none⟩ = false := fun o => (hb.frozen (p := ⟨wc.heap.size, o, none⟩) hl_U).trans (f_U o)
  replace HX_U := Lib.hid (HX_U.out.below hb)
  replace k_V_0 : wg.cell? ⟨wc.heap.size + 1, 0, none⟩ = some (.bool (decide ((de).num < 0))) := (hb.cell (p := ⟨wc.heap.size + 1, 0, none⟩) hl_V).trans k_V_0
  replace k_V_1 : wg.cell? ⟨wc.heap.size + 1, 1, none⟩ = some (.slice rv (nlen (de).num.natAbs) cv) := (hb.cell (p := ⟨wc.heap.size + 1, 1, none⟩) hl_V).trans k_V_1
  replace k_V_2 : wg.cell? ⟨wc.heap.size + 1, 2, none⟩ = some (.slice rv2 (nlen (de).den) cv2) := (hb.cell (p := ⟨wc.heap.size + 1, 2, none⟩) hl_V).trans k_V_2
  replace f_V : ∀ o, wg.frozen? ⟨wc.heap.size + 1, o, none⟩ = false := fun o => (hb.frozen (p := ⟨wc.heap.size + 1, o, none⟩) hl_V).trans (f_V o)
  replace HX_V := Lib.hid (HX_V.out.below hb)
  replace k_X_0 : wg.cell? ⟨wd.heap.size, 0, none⟩ = some (.bool (decide ((de).num < 0))) := (hb.cell (p := ⟨wd.heap.size, 0, none⟩) hl_X).trans k_X_0
  replace k_X_1 : wg.cell? ⟨wd.heap.size, 1, none⟩ = some (.slice rx (nlen (de).num.natAbs) cx) := (hb.cell (p := ⟨wd.heap.size, 1, none⟩) hl_X).trans k_X_1
  replace k_X_2 : wg.cell? ⟨wd.heap.size, 2, none⟩ = some (.slice rx2 (nlen (de).den) cx2) := (hb.cell (p := ⟨wd.heap.size, 2, none⟩) hl_X).trans k_X_2
  replace f_X : ∀ o, wg.frozen? ⟨wd.heap.size, o, none⟩ = false := fun o => (hb.frozen (p := ⟨wd.heap.size, o, none⟩) hl_X).trans (f_X o)
  replace HX_X := Lib.hid (HX_X.out.below hb)
  replace k_Y_0 : wg.cell? ⟨wd.heap.size + 1, 0, none⟩ = some (.bool (decide ((nu).num < 0))) := (hb.cell (p := ⟨wd.heap.size + 1, 0, none⟩) hl_Y).trans k_Y_0
  replace k_Y_1 : wg.cell? ⟨wd.heap.size + 1, 1, none⟩ = some (.slice ry (nlen (nu).num.natAbs) cy) := (hb.cell (p := ⟨wd.heap.size + 1, 1, none⟩) hl_Y).trans k_Y_1
  replace k_Y_2 : wg.cell? ⟨wd.heap.size + 1, 2, none⟩ = some (.slice ry2 (nlen (nu).den) cy2) := (hb.cell (p := ⟨wd.heap.size + 1, 2, none⟩) hl_Y).trans k_Y_2
  replace f_Y : ∀ o, wg.frozen? ⟨wd.heap.size + 1, o, none⟩ = false := fun o => (hb.frozen (p := ⟨wd.heap.size + 1, o, none⟩) hl_Y).trans (f_Y o)
  replace HX_Y := Lib.hid (HX_Y.out.below hb)
  replace k_P_0 : wg.cell? ⟨we.heap.size, 0, none⟩ = some (.bool (decide ((P).num < 0))) := (hb.cell (p := ⟨we.heap.size, 0, none⟩) hl_P).trans k_P_0
  replace k_P_1 : wg.cell? ⟨we.heap.size, 1, none⟩ = some (.slice rt (nlen (P).num.natAbs) ct) := (hb.cell (p := ⟨we.heap.size, 1, none⟩) hl_P).trans k_P_1
  replace k_P_2 : wg.cell? ⟨we.heap.size, 2, none⟩ = some (.slice rt2 (nlen (P).den) ct2) := (hb.cell (p := ⟨we.heap.size, 2, none⟩) hl_P).trans k_P_2
  replace f_P : ∀ o, wg.frozen? ⟨we.heap.size, o, none⟩ = false := fun o => (hb.frozen (p := ⟨we.heap.size, o, none⟩) hl_P).trans (f_P o)
  replace HX_P := Lib.hid (HX_P.out.below hb)
  replace k_Q_0 : wg.cell? ⟨wf.heap.size, 0, none⟩ = some (.bool (decide ((P).num < 0))) := (hb.cell (p := ⟨wf.heap.size, 0, none⟩) hl_Q).trans k_Q_0
  replace k_Q_1 : wg.cell? ⟨wf.heap.size, 1, none⟩ = some (.slice rq (nlen (P).num.natAbs) cq) := (hb.cell (p := ⟨wf.heap.size, 1, none⟩) hl_Q).trans k_Q_1
  replace k_Q_2 : wg.cell? ⟨wf.heap.size, 2, none⟩ = some (.slice rq2 (nlen (P).den) cq2) := (hb.cell (p := ⟨wf.heap.size, 2, none⟩) hl_Q).trans k_Q_2
  replace f_Q : ∀ o, wg.frozen? ⟨wf.heap.size, o, none⟩ = false := fun o => (hb.frozen (p := ⟨wf.heap.size, o, none⟩) hl_Q).trans (f_Q o)
  replace HX_Q := Lib.hid (HX_Q.out.below hb)
  replace HU1 := Lib.hid (HU1.out.below hb)
  replace HU2 := Lib.hid (HU2.out.below hb)
  replace HV1 := Lib.hid (HV1.out.below hb)
  replace HV2 := Lib.hid (HV2.out.below hb)
  replace HX1 := Lib.hid (HX1.out.below hb)
  replace HX2 := Lib.hid (HX2.out.below hb)
  replace HY1 := Lib.hid (HY1.out.below hb)
  replace HY2 := Lib.hid (HY2.out.below hb)
  replace HPA := Lib.hid (HPA.out.below hb)
  replace HPC := Lib.hid (HPC.out.below hb)
  replace HQA := Lib.hid (HQA.out.below hb)
  replace HQB := Lib.hid (HQB.out.below hb)
  replace HB := Lib.hid (HB.out.trans (hb.mono hs0))
  replace hN : N ≤ wg.heap.size := Nat.le_trans hN hb.size
  replace hs0 : w.heap.size ≤ wg.heap.size := Nat.le_trans hs0 hb.size
  replace hl_A : w.heap.size < wg.heap.size := Nat.lt_of_lt_of_le hl_A hb.size
  replace hl_U : wc.heap.size < wg.heap.size := Nat.lt_of_lt_of_le hl_U hb.size
  replace hl_V : wc.heap.size + 1 < wg.heap.size := Nat.lt_of_lt_of_le hl_V hb.size
  replace hl_X : wd.heap.size < wg.heap.size := Nat.lt_of_lt_of_le hl_X hb.size
  replace hl_Y : wd.heap.size + 1 < wg.heap.size := Nat.lt_of_lt_of_le hl_Y hb.size
  replace hl_P : we.heap.size < wg.heap.size := Nat.lt_of_lt_of_le hl_P hb.size
  replace hl_Q : wf.heap.size < wg.heap.size := Nat.lt_of_lt_of_le hl_Q hb.size
  replace HT := Lib.hid (HT.out.below hb)
  replace HAL := Lib.hid (HAL.out.below hb)
  replace HTZ := Lib.hid (HTZ.out.below hb)
  replace HTB := Lib.hid (HTB.out.below hb)
  clear hb
  clear hl_U f_U HX_U k_U_0 k_U_1 k_U_2
  clear hl_Y f_Y HX_Y k_Y_0 k_Y_1 k_Y_2
  clear HU1
  clear HU2
  clear HY1
  clear HY2
  go_wp2_with fail
  refine calls_name fun W7 hW => ?_
  have HL_W7 := Lib.hid (show Below wg.heap.size wg W7 by rw [← hW]; exact BlA)
  have hs_W7 : wg.heap.size ≤ W7.heap.size := by rw [← hW]; (first | omega | (simp; done) | (simp; omega))
  have HK_W7 := Lib.hid (show Kp N wg W7 by rw [← hW]; exact KpA)
  replace k_A_0 : W7.cell? ⟨w.heap.size, 0, none⟩ = some (.bool s2) := (HL_W7.out.cell (p := ⟨w.heap.size, 0, none⟩) hl_A).trans k_A_0
  replace k_A_1 : W7.cell? ⟨w.heap.size, 1, none⟩ = some (.slice a2 na2 ca2) := (HL_W7.out.cell (p := ⟨w.heap.size, 1, none⟩) hl_A).trans k_A_1
  replace k_A_2 : W7.cell? ⟨w.heap.size, 2, none⟩ = some (.slice d2 nd2 cd2) := (HL_W7.out.cell (p := ⟨w.heap.size, 2, none⟩) hl_A).trans k_A_2
  replace f_A : ∀ o, W7.frozen? ⟨w.heap.size, o, none⟩ = false := fun o => (HL_W7.out.frozen (p := ⟨w.heap.size, o, none⟩) hl_A).trans (f_A o)
  replace HX_A := Lib.hid (show Bn W7 (w.heap.size) by rw [← hW]; exact KpA)
  replace k_V_0 : W7.cell? ⟨wc.heap.size + 1, 0, none⟩ = some (.bool (decide ((de).num < 0))) := (HL_W7.out.cell (p := ⟨wc.heap.size + 1, 0, none⟩) hl_V).trans k_V_0
  replace k_V_1 : W7.cell? ⟨wc.heap.size + 1, 1, none⟩ = some (.slice rv (nlen (de).num.natAbs) cv) := (HL_W7.out.cell (p := ⟨wc.heap.size + 1, 1, none⟩) hl_V).trans k_V_1
  replace k_V_2 : W7.cell? ⟨wc.heap.size + 1, 2, none⟩ = some (.slice rv2 (nlen (de).den) cv2) := (HL_W7.out.cell (p := ⟨wc.heap.size + 1, 2, none⟩) hl_V).trans k_V_2
  replace f_V : ∀ o, W7.frozen? ⟨wc.heap.size + 1, o, none⟩ = false := fun o => (HL_W7.out.frozen (p := ⟨wc.heap.size + 1, o, none⟩) hl_V).trans (f_V o)
  replace HX_V := Lib.hid (show Bn W7 (wc.heap.size + 1) by rw [← hW]; exact KpA)
  replace k_X_0 : W7.cell? ⟨wd.heap.size, 0, none⟩ = some (.bool (decide ((de).num < 0))) := (HL_W7.out.cell (p := ⟨wd.heap.size, 0, none⟩) hl_X).trans k_X_0
  replace k_X_1 : W7.cell? ⟨wd.heap.size, 1, none⟩ = some (.slice rx (nlen (de).num.natAbs) cx) := (HL_W7.out.cell (p := ⟨wd.heap.size, 1, none⟩) hl_X).trans k_X_1
  replace k_X_2 : W7.cell? ⟨wd.heap.size, 2, none⟩ = some (.slice rx2 (nlen (de).den) cx2) := (HL_W7.out.cell (p := ⟨wd.heap.size, 2, none⟩) hl_X).trans k_X_2
  replace f_X : ∀ o, W7.frozen? ⟨wd.heap.size, o, none⟩ = false := fun o => (HL_W7.out.frozen (p := ⟨wd.heap.size, o, none⟩) hl_X).trans (f_X o)
  replace HX_X := Lib.hid (show Bn W7 (wd.heap.size) by rw [← hW]; exact KpA)
  replace k_P_0 : W7.cell? ⟨we.heap.size, 0, none⟩ = some (.bool (decide ((P).num < 0))) := (HL_W7.out.cell (p := ⟨we.heap.size, 0, none⟩) hl_P).trans k_P_0
  replace k_P_1 : W7.cell? ⟨we.heap.size, 1, none⟩ = some (.slice rt (nlen (P).num.natAbs) ct) := (HL_W7.out.cell (p := ⟨we.heap.size, 1, none⟩) hl_P).trans k_P_1
  replace k_P_2 : W7.cell? ⟨we.heap.size, 2, none⟩ = some (.slice rt2 (nlen (P).den) ct2) := (HL_W7.out.cell (p := ⟨we.heap.size, 2, none⟩) hl_P).trans k_P_2
  replace f_P : ∀ o, W7.frozen? ⟨we.heap.size, o, none⟩ = false := fun o => (HL_W7.out.frozen (p := ⟨we.heap.size, o, none⟩) hl_P).trans (f_P o)
  replace HX_P := Lib.hid (show Bn W7 (we.heap.size) by rw [← hW]; exact KpA)
  replace k_Q_0 : W7.cell? ⟨wf.heap.size, 0, none⟩ = some (.bool (decide ((P).num < 0))) := (HL_W7.out.cell (p := ⟨wf.heap.size, 0, none⟩) hl_Q).trans k_Q_0
  replace k_Q_1 : W7.cell? ⟨wf.heap.size, 1, none⟩ = some (.slice rq (nlen (P).num.natAbs) cq) := (HL_W7.out.cell (p := ⟨wf.heap.size, 1, none⟩) hl_Q).trans k_Q_1
  replace k_Q_2 : W7.cell? ⟨wf.heap.size, 2, none⟩ = some (.slice rq2 (nlen (P).den) cq2) := (HL_W7.out.cell (p := ⟨wf.heap.size, 2, none⟩) hl_Q).trans k_Q_2
  replace f_Q : ∀ o, W7.frozen? ⟨wf.heap.size, o, none⟩ = false := fun o => (HL_W7.out.frozen (p := ⟨wf.heap.size, o, none⟩) hl_Q).trans (f_Q o)
  replace HX_Q := Lib.hid (show Bn W7 (wf.heap.size) by rw [← hW]; exact KpA)
  replace HV1 := Lib.hid (HV1.out.keep HK_W7.out)
  replace HV2 := Lib.hid (HV2.out.keep HK_W7.out)
  replace HX1 := Lib.hid (HX1.out.keep HK_W7.out)
  replace HX2 := Lib.hid (HX2.out.keep HK_W7.out)
  replace HPA := Lib.hid (HPA.out.keep HK_W7.out)
  replace HPC := Lib.hid (HPC.out.keep HK_W7.out)
  replace HQA := Lib.hid (HQA.out.keep HK_W7.out)
  replace HQB := Lib.hid (HQB.out.keep HK_W7.out)
  replace HB := Lib.hid (show Below w.heap.size w W7 by rw [← hW]; exact BlA)
  replace hN : N ≤ W7.heap.size := by rw [← hW]; (first | omega | (simp; done) | (simp; omega))
  replace hs0 : w.heap.size ≤ W7.heap.size := by rw [← hW]; (first | omega | (simp; done) | (simp; omega))
  replace hl_A : w.heap.size < W7.heap.size := by rw [← hW]; (first | omega | (simp; done) | (simp; omega))
  replace hl_V : wc.heap.size + 1 < W7.heap.size := by rw [← hW]; (first | omega | (simp; done) | (simp; omega))
  replace hl_X : wd.heap.size < W7.heap.size := by rw [← hW]; (first | omega | (simp; done) | (simp; omega))
  replace hl_P : we.heap.size < W7.heap.size := by rw [← hW]; (first | omega | (simp; done) | (simp; omega))
  replace hl_Q : wf.heap.size < W7.heap.size := by rw [← hW]; (first | omega | (simp; done) | (simp; omega))
  replace HT := Lib.hid (HT.out.below HL_W7.out)
  replace HAL := Lib.hid (HAL.out.below HL_W7.out)
  replace HTZ := Lib.hid (HTZ.out.below HL_W7.out)
  replace HTB := Lib.hid (HTB.out.below HL_W7.out)
  clear HL_W7
  clear hW HK_W7
  refine (equal30_any (N := N) _ _ _ _ _ _ de.num.natAbs _ de.den _ _ _ _ _ HV1.out HV2.out HX1.out HX2.out).mono ?_
  rintro e wh ⟨rfl, hb⟩
  have hs_wh : W7.heap.size ≤ wh.heap.size := hb.size
  replace k_A_0 : wh.cell? ⟨w.heap.size, 0, none⟩ = some (.bool s2) := (hb.cell (p := ⟨w.heap.size, 0, none⟩) hl_A).trans k_A_0
  replace k_A_1 : wh.cell? ⟨w.heap.size, 1, none⟩ = some (.slice a2 na2 ca2) := (hb.cell (p := ⟨w.heap.size, 1, none⟩) hl_A).trans k_A_1
  replace k_A_2 : wh.cell? ⟨w.heap.size, 2, none⟩ = some (.slice d2 nd2 cd2) := (hb.cell (p := ⟨w.heap.size, 2, none⟩) hl_A).trans k_A_2
  replace f_A : ∀ o, wh.frozen? ⟨w.heap.size, o, none⟩ = false := fun o => (hb.frozen (p := ⟨w.heap.size, o, none⟩) hl_A).trans (f_A o)
  replace HX_A := Lib.hid (HX_A.out.below hb)
  replace k_V_0 : wh.cell? ⟨wc.heap.size + 1, 0, none⟩ = some (.bool (decide ((de).num < 0))) := (hb.cell (p := ⟨wc.heap.size + 1, 0, none⟩) hl_V).trans k_V_0
  replace k_V_1 : wh.cell? ⟨wc.heap.size + 1, 1, none⟩ = some (.slice rv (nlen (de).num.natAbs) cv) := (hb.cell (p := ⟨wc.heap.size + 1, 1, none⟩) hl_V).trans k_V_1
  replace k_V_2 : wh.cell? ⟨wc.heap.size + 1, 2, none⟩ = some (.slice rv2 (nlen (de).den) cv2) := (hb.cell (p := ⟨wc.heap.size + 1, 2, none⟩) hl_V).trans k_V_2
  replace f_V : ∀ o, wh.frozen? ⟨wc.heap.size + 1, o, none⟩ = false := fun o => (hb.frozen (p := ⟨wc.heap.size + 1, o, none⟩) hl_V).trans (f_V o)
  replace HX_V := Lib.hid (HX_V.out.below hb)
  replace k_X_0 : wh.cell? ⟨wd.heap.size, 0, none⟩ = some (.bool (decide ((de).num < 0))) := (hb.cell (p := ⟨wd.heap.size, 0, none⟩) hl_X).trans k_X_0
  replace k_X_1 : wh.cell? ⟨wd.heap.size, 1, none⟩ = some (.slice rx (nlen (de).num.natAbs) cx) := (hb.cell (p := ⟨wd.heap.size, 1, none⟩) hl_X).trans k_X_1
  replace k_X_2 : wh.cell? ⟨wd.heap.size, 2, none⟩ = some (.slice rx2 (nlen (de).den) cx2) := (hb.cell (p := ⟨wd.heap.size, 2, none⟩) hl_X).trans k_X_2
  replace f_X : ∀ o, wh.frozen? ⟨wd.heap.size, o, none⟩ = false := fun o => (hb.frozen (p := ⟨wd.heap.size, o, none⟩) hl_X).trans (f_X o)
  replace HX_X := Lib.hid (HX_X.out.below hb)
  replace k_P_0 : wh.cell? ⟨we.heap.size, 0, none⟩ = some (.bool (decide ((P).num < 0))) := (hb.cell (p := ⟨we.heap.size, 0, none⟩) hl_P).trans k_P_0
  replace k_P_1 : wh.cell? ⟨we.heap.size, 1, none⟩ = some (.slice rt (nlen (P).num.natAbs) ct) := (hb.cell (p := ⟨we.heap.size, 1, none⟩) hl_P).trans k_P_1
  replace k_P_2 : wh.cell? ⟨we.heap.size, 2, none⟩ = some (.slice rt2 (nlen (P).den) ct2) := (hb.cell (p := ⟨we.heap.size, 2, none⟩) hl_P).trans k_P_2
  replace f_P : ∀ o, wh.frozen? ⟨we.heap.size, o, none⟩ = false := fun o => (hb.frozen (p := ⟨we.heap.size, o, none⟩) hl_P).trans (f_P o)
  replace HX_P := Lib.hid (HX_P.out.below hb)
  replace k_Q_0 : wh.cell? ⟨wf.heap.size, 0, none⟩ = some (.bool (decide ((P).num < 0))) := (hb.cell (p := ⟨wf.heap.size, 0, none⟩) hl_Q).trans k_Q_0
  replace k_Q_1 : wh.cell? ⟨wf.heap.size, 1, none⟩ = some (.slice rq (nlen (P).num.natAbs) cq) := (hb.cell (p := ⟨wf.heap.size, 1, none⟩) hl_Q).trans k_Q_1
  replace k_Q_2 : wh.cell? ⟨wf.heap.size, 2, none⟩ = some (.slice rq2 (nlen (P).den) cq2) := (hb.cell (p := ⟨wf.heap.size, 2, none⟩) hl_Q).trans k_Q_2
  replace f_Q : ∀ o, wh.frozen? ⟨wf.heap.size, o, none⟩ = false := fun o => (hb.frozen (p := ⟨wf.heap.size, o, none⟩) hl_Q).trans (f_Q o)
  replace HX_Q := Lib.hid (HX_Q.out.below hb)
  replace HV1 := Lib.hid (HV1.out.below hb)
  replace HV2 := Lib.hid (HV2.out.below hb)
  replace HX1 := Lib.hid (HX1.out.below hb)
  replace HX2 := Lib.hid (HX2.out.below hb)
  replace HPA := Lib.hid (HPA.out.below hb)
  replace HPC := Lib.hid (HPC.out.below hb)
  replace HQA := Lib.hid (HQA.out.below hb)
  replace HQB := Lib.hid (HQB.out.below hb)
  replace HB := Lib.hid (HB.out.trans (hb.mono hs0))
  replace hN : N ≤ wh.heap.size := Nat.le_trans hN hb.size
  replace hs0 : w.heap.size ≤ wh.heap.size := Nat.le_trans hs0 hb.size
  replace hl_A : w.heap.size < wh.heap.size := Nat.lt_of_lt_of_le hl_A hb.size
  replace hl_V : wc.heap.size + 1 < wh.heap.size := Nat.lt_of_lt_of_le hl_V hb.size
  replace hl_X : wd.heap.size < wh.heap.size := Nat.lt_of_lt_of_le hl_X hb.size
  replace hl_P : we.heap.size < wh.heap.size := Nat.lt_of_lt_of_le hl_P hb.size
  replace hl_Q : wf.heap.size < wh.heap.size := Nat.lt_of_lt_of_le hl_Q hb.size
  replace HT := Lib.hid (HT.out.below hb)
  replace HAL := Lib.hid (HAL.out.below hb)
  replace HTZ := Lib.hid (HTZ.out.below hb)
  replace HTB := Lib.hid (HTB.out.below hb)
  clear hb
  clear hl_V f_V HX_V k_V_0 k_V_1 k_V_2
  clear hl_X f_X HX_X k_X_0 k_X_1 k_X_2
  clear HV1
  clear HV2
  clear HX1
  clear HX2
  go_wp2_with fail
  refine calls_name fun W8 hW => ?_
  have HL_W8 := Lib.hid (show Below wh.heap.size wh W8 by rw [← hW]; exact BlA)
  have hs_W8 : wh.heap.size ≤ W8.heap.size := by rw [← hW]; (first | omega | (simp; done) | (simp; omega))
  have HK_W8 := Lib.hid (show Kp N wh W8 by rw [← hW]; exact KpA)
  replace k_A_0 : W8.cell? ⟨w.heap.size, 0, none⟩ = some (.bool s2) := (HL_W8.out.cell (p := ⟨w.heap.size, 0, none⟩) hl_A).trans k_A_0
  replace k_A_1 : W8.cell? ⟨w.heap.size, 1, none⟩ = some (.slice a2 na2 ca2) := (HL_W8.out.cell (p := ⟨w.heap.size, 1, none⟩) hl_A).trans k_A_1
  replace k_A_2 : W8.cell? ⟨w.heap.size, 2, none⟩ = some (.slice d2 nd2 cd2) := (HL_W8.out.cell (p := ⟨w.heap.size, 2, none⟩) hl_A).trans k_A_2
  replace f_A : ∀ o, W8.frozen? ⟨w.heap.size, o, none⟩ = false := fun o => (HL_W8.out.frozen (p := ⟨w.heap.size, o, none⟩) hl_A).trans (f_A o)
  replace HX_A := Lib.hid (show Bn W8 (w.heap.size) by rw [← hW]; exact KpA)
  replace k_P_0 : W8.cell? ⟨we.heap.size, 0, none⟩ = some (.bool (decide ((P).num < 0))) := (HL_W8.out.cell (p := ⟨we.heap.size, 0, none⟩) hl_P).trans k_P_0
  replace k_P_1 : W8.cell? ⟨we.heap.size, 1, none⟩ = some (.slice rt (nlen (P).num.natAbs) ct) := (HL_W8.out.cell (p := ⟨we.heap.size, 1, none⟩) hl_P).trans k_P_1
  replace k_P_2 : W8.cell? ⟨we.heap.size, 2, none⟩ = some (.slice rt2 (nlen (P).den) ct2) := (HL_W8.out.cell (p := ⟨we.heap.size, 2, none⟩) hl_P).trans k_P_2
  replace f_P : ∀ o, W8.frozen? ⟨we.heap.size, o, none⟩ = false := fun o => (HL_W8.out.frozen (p := ⟨we.heap.size, o, none⟩) hl_P).trans (f_P o)
  replace HX_P := Lib.hid (show Bn W8 (we.heap.size) by rw [← hW]; exact KpA)
  replace k_Q_0 : W8.cell? ⟨wf.heap.size, 0, none⟩ = some (.bool (decide ((P).num < 0))) := (HL_W8.out.cell (p := ⟨wf.heap.size, 0, none⟩) hl_Q).trans k_Q_0
  replace k_Q_1 : W8.cell? ⟨wf.heap.size, 1, none⟩ = some (.slice rq (nlen (P).num.natAbs) cq) := (HL_W8.out.cell (p := ⟨wf.heap.size, 1, none⟩) hl_Q).trans k_Q_1
  replace k_Q_2 : W8.cell? ⟨wf.heap.size, 2, none⟩ = some (.slice rq2 (nlen (P).den) cq2) := (HL_W8.out.cell (p := ⟨wf.heap.size, 2, none⟩) hl_Q).trans k_Q_2
  replace f_Q : ∀ o, W8.frozen? ⟨wf.heap.size, o, none⟩ = false := fun o => (HL_W8.out.frozen (p := ⟨wf.heap.size, o, none⟩) hl_Q).trans (f_Q o)
  replace HX_Q := Lib.hid (show Bn W8 (wf.heap.size) by rw [← hW]; exact KpA)
  replace HPA := Lib.hid (HPA.out.keep HK_W8.out)
  replace HPC := Lib.hid (HPC.out.keep HK_W8.out)
  replace HQA := Lib.hid (HQA.out.keep HK_W8.out)
  replace HQB := Lib.hid (HQB.out.keep HK_W8.out)
  replace HB := Lib.hid (show Below w.heap.size w W8 by rw [← hW]; exact BlA)
  replace hN : N ≤ W8.heap.size := by rw [← hW]; (first | omega | (simp; done) | (simp; omega))
  replace hs0 : w.heap.size ≤ W8.heap.size := by rw [← hW]; (first | omega | (simp; done) | (simp; omega))
  replace hl_A : w.heap.size < W8.heap.size := by rw [← hW]; (first | omega | (simp; done) | (simp; omega))
  replace hl_P : we.heap.size < W8.heap.size := by rw [← hW]; (first | omega | (simp; done) | (simp; omega))
  replace hl_Q : wf.heap.size < W8.heap.size := by rw [← hW]; (first | omega | (simp; done) | (simp; omega))
  replace HT := Lib.hid (HT.out.below HL_W8.out)
  replace HAL := Lib.hid (HAL.out.below HL_W8.out)
  replace HTZ := Lib.hid (HTZ.out.below HL_W8.out)
  replace HTB := Lib.hid (HTB.out.below HL_W8.out)
  clear HL_W8
  clear hW HK_W8
  refine (equal30_any (N := N) _ _ _ _ _ _ P.num.natAbs _ P.den _ _ _ _ _ HPA.out HPC.out HQA.out HQB.out).mono ?_
  rintro e wi ⟨rfl, hb⟩
  have hs_wi : W8.heap.size ≤ wi.heap.size := hb.size
  replace k_A_0 : wi.cell? ⟨w.heap.size, 0, none⟩ = some (.bool s2) := (hb.cell (p := ⟨w.heap.size, 0, none⟩) hl_A).trans k_A_0
  replace k_A_1 : wi.cell? ⟨w.heap.size, 1, none⟩ = some (.slice a2 na2 ca2) := (hb.cell (p := ⟨w.heap.size, 1, none⟩) hl_A).trans k_A_1
  replace k_A_2 : wi.cell? ⟨w.heap.size, 2, none⟩ = some (.slice d2 nd2 cd2) := (hb.cell (p := ⟨w.heap.size, 2, none⟩) hl_A).trans k_A_2
  replace f_A : ∀ o, wi.frozen? ⟨w.heap.size, o, none⟩ = false := fun o => (hb.frozen (p := ⟨w.heap.size, o, none⟩) hl_A).trans (f_A o)
  replace HX_A := Lib.hid (HX_A.out.below hb)
  replace k_P_0 : wi.cell? ⟨we.heap.size, 0, none⟩ = some (.bool (decide ((P).num < 0))) := (hb.cell (p := ⟨we.heap.size, 0, none⟩) hl_P).trans k_P_0
  replace k_P_1 : wi.cell? ⟨we.heap.size, 1, none⟩ = some (.slice rt (nlen (P).num.natAbs) ct) := (hb.cell (p := ⟨we.heap.size, 1, none⟩) hl_P).trans k_P_1
  replace k_P_2 : wi.cell? ⟨we.heap.size, 2, none⟩ = some (.slice rt2 (nlen (P).den) ct2) := (hb.cell (p := ⟨we.heap.size, 2, none⟩) hl_P).trans k_P_2
  replace f_P : ∀ o, wi.frozen? ⟨we.heap.size, o, none⟩ = false := fun o => (hb.frozen (p := ⟨we.heap.size, o, none⟩) hl_P).trans (f_P o)
  replace HX_P := Lib.hid (HX_P.out.below hb)
  replace k_Q_0 : wi.cell? ⟨wf.heap.size, 0, none⟩ = some (.bool (decide ((P).num < 0))) := (hb.cell (p := ⟨wf.heap.size, 0, none⟩) hl_Q).trans k_Q_0
  replace k_Q_1 : wi.cell? ⟨wf.heap.size, 1, none⟩ = some (.slice rq (nlen (P).num.natAbs) cq) := (hb.cell (p := ⟨wf.heap.size, 1, none⟩) hl_Q).trans k_Q_1
  replace k_Q_2 : wi.cell? ⟨wf.heap.size, 2, none⟩ = some (.slice rq2 (nlen (P).den) cq2) := (hb.cell (p := ⟨wf.heap.size, 2, none⟩) hl_Q).trans k_Q_2
  replace f_Q : ∀ o, wi.frozen? ⟨wf.heap.size, o, none⟩ = false := fun o => (hb.frozen (p := ⟨wf.heap.size, o, none⟩) hl_Q).trans (f_Q o)
  replace HX_Q := Lib.hid (HX_Q.out.below hb)
  replace HPA := Lib.hid (HPA.out.below hb)
  replace HPC := Lib.hid (HPC.out.below hb)
  replace HQA := Lib.hid (HQA.out.below hb)
  replace HQB := Lib.hid (HQB.out.below hb)
  replace HB := Lib.hid (HB.out.trans (hb.mono hs0))
  replace hN : N ≤ wi.heap.size := Nat.le_trans hN hb.size
  replace hs0 : w.heap.size ≤ wi.heap.size := Nat.le_trans hs0 hb.size
  replace hl_A : w.heap.size < wi.heap.size := Nat.lt_of_lt_of_le hl_A hb.size
  replace hl_P : we.heap.size < wi.heap.size := Nat.lt_of_lt_of_le hl_P hb.size
  replace hl_Q : wf.heap.size < wi.heap.size := Nat.lt_of_lt_of_le hl_Q hb.size
  replace HT := Lib.hid (HT.out.below hb)
  replace HAL := Lib.hid (HAL.out.below hb)
  replace HTZ := Lib.hid (HTZ.out.below hb)
  replace HTB := Lib.hid (HTB.out.below hb)
  clear hb
  clear hl_P f_P HX_P k_P_0 k_P_1 k_P_2
  clear hl_Q f_Q HX_Q k_Q_0 k_Q_1 k_Q_2
  clear HPA
  clear HPC
  clear HQA
  clear HQB
  go_wp2_with fail
  refine calls_name fun W9 hW => ?_
  have HL_W9 := Lib.hid (show Below wi.heap.size wi W9 by rw [← hW]; exact BlA)
  have hs_W9 : wi.heap.size ≤ W9.heap.size := by rw [← hW]; (first | omega | (simp; done) | (simp; omega))
  replace k_A_0 : W9.cell? ⟨w.heap.size, 0, none⟩ = some (.bool s2) := (HL_W9.out.cell (p := ⟨w.heap.size, 0, none⟩) hl_A).trans k_A_0
  replace k_A_1 : W9.cell? ⟨w.heap.size, 1, none⟩ = some (.slice a2 na2 ca2) := (HL_W9.out.cell (p := ⟨w.heap.size, 1, none⟩) hl_A).trans k_A_1
  replace k_A_2 : W9.cell? ⟨w.heap.size, 2, none⟩ = some (.slice d2 nd2 cd2) := (HL_W9.out.cell (p := ⟨w.heap.size, 2, none⟩) hl_A).trans k_A_2
  replace f_A : ∀ o, W9.frozen? ⟨w.heap.size, o, none⟩ = false := fun o => (HL_W9.out.frozen (p := ⟨w.heap.size, o, none⟩) hl_A).trans (f_A o)
  replace HX_A := Lib.hid (show Bn W9 (w.heap.size) by rw [← hW]; exact KpA)
  replace HB := Lib.hid (show Below w.heap.size w W9 by rw [← hW]; exact BlA)
  replace hN : N ≤ W9.heap.size := by rw [← hW]; (first | omega | (simp; done) | (simp; omega))
  replace hs0 : w.heap.size ≤ W9.heap.size := by rw [← hW]; (first | omega | (simp; done) | (simp; omega))
  replace hl_A : w.heap.size < W9.heap.size := by rw [← hW]; (first | omega | (simp; done) | (simp; omega))
  replace HT := Lib.hid (HT.out.below HL_W9.out)
  replace HAL := Lib.hid (HAL.out.below HL_W9.out)
  replace HTZ := Lib.hid (HTZ.out.below HL_W9.out)
  replace HTB := Lib.hid (HTB.out.below HL_W9.out)
  clear HL_W9
  clear hW
  cases b0
  · refine (class_ok (N := N) _ m _ t _ hN HTZ.out (by omega) HBD.out.cnt (HBD.out.sup hm6) _ _ _ _ _ _ _ L al HAL.out hL false HPB.out (-d) HC.out).mono ?_
    rintro e wj ⟨rfl, hb⟩
    have hs_wj : W9.heap.size ≤ wj.heap.size := hb.size
    replace k_A_0 : wj.cell? ⟨w.heap.size, 0, none⟩ = some (.bool s2) := (hb.cell (p := ⟨w.heap.size, 0, none⟩) hl_A).trans k_A_0
    replace k_A_1 : wj.cell? ⟨w.heap.size, 1, none⟩ = some (.slice a2 na2 ca2) := (hb.cell (p := ⟨w.heap.size, 1, none⟩) hl_A).trans k_A_1
    replace k_A_2 : wj.cell? ⟨w.heap.size, 2, none⟩ = some (.slice d2 nd2 cd2) := (hb.cell (p := ⟨w.heap.size, 2, none⟩) hl_A).trans k_A_2
    replace f_A : ∀ o, wj.frozen? ⟨w.heap.size, o, none⟩ = false := fun o => (hb.frozen (p := ⟨w.heap.size, o, none⟩) hl_A).trans (f_A o)
    replace HX_A := Lib.hid (HX_A.out.below hb)
    replace HB := Lib.hid (HB.out.trans (hb.mono hs0))
    replace hN : N ≤ wj.heap.size := Nat.le_trans hN hb.size
    replace hs0 : w.heap.size ≤ wj.heap.size := Nat.le_trans hs0 hb.size
    replace hl_A : w.heap.size < wj.heap.size := Nat.lt_of_lt_of_le hl_A hb.size
    replace HT := Lib.hid (HT.out.below hb)
    replace HAL := Lib.hid (HAL.out.below hb)
    replace HTZ := Lib.hid (HTZ.out.below hb)
    replace HTB := Lib.hid (HTB.out.below hb)
    clear hb
    go_wp2_with fail
    refine calls_name fun W10 hW => ?_
    have HL_W10 := Lib.hid (show Below wj.heap.size wj W10 by rw [← hW]; exact BlA)
    have hs_W10 : wj.heap.size ≤ W10.heap.size := by rw [← hW]; (first | omega | (simp; done) | (simp; omega))
    replace k_A_0 : W10.cell? ⟨w.heap.size, 0, none⟩ = some (.bool s2) := (HL_W10.out.cell (p := ⟨w.heap.size, 0, none⟩) hl_A).trans k_A_0
    replace k_A_1 : W10.cell? ⟨w.heap.size, 1, none⟩ = some (.slice a2 na2 ca2) := (HL_W10.out.cell (p := ⟨w.heap.size, 1, none⟩) hl_A).trans k_A_1
    replace k_A_2 : W10.cell? ⟨w.heap.size, 2, none⟩ = some (.slice d2 nd2 cd2) := (HL_W10.out.cell (p := ⟨w.heap.size, 2, none⟩) hl_A).trans k_A_2
    replace f_A : ∀ o, W10.frozen? ⟨w.heap.size, o, none⟩ = false := fun o => (HL_W10.out.frozen (p := ⟨w.heap.size, o, none⟩) hl_A).trans (f_A o)
    replace HX_A := Lib.hid (show Bn W10 (w.heap.size) by rw [← hW]; exact KpA)
    replace HB := Lib.hid (show Below w.heap.size w W10 by rw [← hW]; exact BlA)
    replace hN : N ≤ W10.heap.size := by rw [← hW]; (first | omega | (simp; done) | (simp; omega))
    replace hs0 : w.heap.size ≤ W10.heap.size := by rw [← hW]; (first | omega | (simp; done) | (simp; omega))
    replace hl_A : w.heap.size < W10.heap.size := by rw [← hW]; (first | omega | (simp; done) | (simp; omega))
    replace HT := Lib.hid (HT.out.below HL_W10.out)
    replace HAL := Lib.hid (HAL.out.below HL_W10.out)
    replace HTZ := Lib.hid (HTZ.out.below HL_W10.out)
    replace HTB := Lib.hid (HTB.out.below HL_W10.out)
    clear HL_W10
    clear hW
    refine (class_ok (N := N) _ m _ (swS t) _ hN HTB.out (by omega) HBD.out.sw.cnt (HBD.out.sw.sup hm6) _ _ _ _ _ _ _ L al HAL.out hL false HPB.out d HD.out).mono ?_
    rintro e wk ⟨rfl, hb⟩
    have hs_wk : W10.heap.size ≤ wk.heap.size := hb.size
    replace k_A_0 : wk.cell? ⟨w.heap.size, 0, none⟩ = some (.bool s2) := (hb.cell (p := ⟨w.heap.size, 0, none⟩) hl_A).trans k_A_0
    replace k_A_1 : wk.cell? ⟨w.heap.size, 1, none⟩ = some (.slice a2 na2 ca2) := (hb.cell (p := ⟨w.heap.size, 1, none⟩) hl_A).trans k_A_1
    replace k_A_2 : wk.cell? ⟨w.heap.size, 2, none⟩ = some (.slice d2 nd2 cd2) := (hb.cell (p := ⟨w.heap.size, 2, none⟩) hl_A).trans k_A_2
    replace f_A : ∀ o, wk.frozen? ⟨w.heap.size, o, none⟩ = false := fun o => (hb.frozen (p := ⟨w.heap.size, o, none⟩) hl_A).trans (f_A o)
    replace HX_A := Lib.hid (HX_A.out.below hb)
    replace HB := Lib.hid (HB.out.trans (hb.mono hs0))
    replace hN : N ≤ wk.heap.size := Nat.le_trans hN hb.size
    replace hs0 : w.heap.size ≤ wk.heap.size := Nat.le_trans hs0 hb.size
    replace hl_A : w.heap.size < wk.heap.size := Nat.lt_of_lt_of_le hl_A hb.size
    replace HT := Lib.hid (HT.out.below hb)
    replace HAL := Lib.hid (HAL.out.below hb)
    replace HTZ := Lib.hid (HTZ.out.below hb)
    replace HTB := Lib.hid (HTB.out.below hb)
    clear hb
    go_wp2_with fail
    refine calls_name fun W11 hW => ?_
    have HL_W11 := Lib.hid (show Below wk.heap.size wk W11 by rw [← hW]; exact BlA)
    have hs_W11 : wk.heap.size ≤ W11.heap.size := by rw [← hW]; (first | omega | (simp; done) | (simp; omega))
    replace k_A_0 : W11.cell? ⟨w.heap.size, 0, none⟩ = some (.bool s2) := (HL_W11.out.cell (p := ⟨w.heap.size, 0, none⟩) hl_A).trans k_A_0
    replace k_A_1 : W11.cell? ⟨w.heap.size, 1, none⟩ = some (.slice a2 na2 ca2) := (HL_W11.out.cell (p := ⟨w.heap.size, 1, none⟩) hl_A).trans k_A_1
    replace k_A_2 : W11.cell? ⟨w.heap.size, 2, none⟩ = some (.slice d2 nd2 cd2) := (HL_W11.out.cell (p := ⟨w.heap.size, 2, none⟩) hl_A).trans k_A_2
    replace f_A : ∀ o, W11.frozen? ⟨w.heap.size, o, none⟩ = false := fun o => (HL_W11.out.frozen (p := ⟨w.heap.size, o, none⟩) hl_A).trans (f_A o)
    replace HX_A := Lib.hid (show Bn W11 (w.heap.size) by rw [← hW]; exact KpA)
    replace HB := Lib.hid (show Below w.heap.size w W11 by rw [← hW]; exact BlA)
    replace hN : N ≤ W11.heap.size := by rw [← hW]; (first | omega | (simp; done) | (simp; omega))
    replace hs0 : w.heap.size ≤ W11.heap.size := by rw [← hW]; (first | omega | (simp; done) | (simp; omega))
    replace hl_A : w.heap.size < W11.heap.size := by rw [← hW]; (first | omega | (simp; done) | (simp; omega))
    replace HT := Lib.hid (HT.out.below HL_W11.out)
    replace HAL := Lib.hid (HAL.out.below HL_W11.out)
    replace HTZ := Lib.hid (HTZ.out.below HL_W11.out)
    replace HTB := Lib.hid (HTB.out.below HL_W11.out)
    clear HL_W11
    clear hW
    refine (fawake_any (N := N) _ hN HT.out).mono ?_
    rintro e wl ⟨rfl, hb⟩
    have hs_wl : W11.heap.size ≤ wl.heap.size := hb.size
    replace k_A_0 : wl.cell? ⟨w.heap.size, 0, none⟩ = some (.bool s2) := (hb.cell (p := ⟨w.heap.size, 0, none⟩) hl_A).trans k_A_0
    replace k_A_1 : wl.cell? ⟨w.heap.size, 1, none⟩ = some (.slice a2 na2 ca2) := (hb.cell (p := ⟨w.heap.size, 1, none⟩) hl_A).trans k_A_1
    replace k_A_2 : wl.cell? ⟨w.heap.size, 2, none⟩ = some (.slice d2 nd2 cd2) := (hb.cell (p := ⟨w.heap.size, 2, none⟩) hl_A).trans k_A_2
    replace f_A : ∀ o, wl.frozen? ⟨w.heap.size, o, none⟩ = false := fun o => (hb.frozen (p := ⟨w.heap.size, o, none⟩) hl_A).trans (f_A o)
    replace HX_A := Lib.hid (HX_A.out.below hb)
    replace HB := Lib.hid (HB.out.trans (hb.mono hs0))
    replace hN : N ≤ wl.heap.size := Nat.le_trans hN hb.size
    replace hs0 : w.heap.size ≤ wl.heap.size := Nat.le_trans hs0 hb.size
    replace hl_A : w.heap.size < wl.heap.size := Nat.lt_of_lt_of_le hl_A hb.size
    replace HT := Lib.hid (HT.out.below hb)
    replace HAL := Lib.hid (HAL.out.below hb)
    replace HTZ := Lib.hid (HTZ.out.below hb)
    replace HTB := Lib.hid (HTB.out.below hb)
    clear hb
    go_wp2_with fail
    go_ret
    exact ⟨rfl, HB.out⟩
  · refine (class_ok (N := N) _ m _ t _ hN HTZ.out (by omega) HBD.out.cnt (HBD.out.sup hm6) _ _ _ _ _ _ _ L al HAL.out hL true HPB.out (-d) HC.out).mono ?_
    rintro e wj ⟨rfl, hb⟩
    have hs_wj : W9.heap.size ≤ wj.heap.size := hb.size
    replace k_A_0 : wj.cell? ⟨w.heap.size, 0, none⟩ = some (.bool s2) := (hb.cell (p := ⟨w.heap.size, 0, none⟩) hl_A).trans k_A_0
    replace k_A_1 : wj.cell? ⟨w.heap.size, 1, none⟩ = some (.slice a2 na2 ca2) := (hb.cell (p := ⟨w.heap.size, 1, none⟩) hl_A).trans k_A_1
    replace k_A_2 : wj.cell? ⟨w.heap.size, 2, none⟩ = some (.slice d2 nd2 cd2) := (hb.cell (p := ⟨w.heap.size, 2, none⟩) hl_A).trans k_A_2
    replace f_A : ∀ o, wj.frozen? ⟨w.heap.size, o, none⟩ = false := fun o => (hb.frozen (p := ⟨w.heap.size, o, none⟩) hl_A).trans (f_A o)
    replace HX_A := Lib.hid (HX_A.out.below hb)
    replace HB := Lib.hid (HB.out.trans (hb.mono hs0))
    replace hN : N ≤ wj.heap.size := Nat.le_trans hN hb.size
    replace hs0 : w.heap.size ≤ wj.heap.size := Nat.le_trans hs0 hb.size
    replace hl_A : w.heap.size < wj.heap.size := Nat.lt_of_lt_of_le hl_A hb.size
    replace HT := Lib.hid (HT.out.below hb)
    replace HAL := Lib.hid (HAL.out.below hb)
    replace HTZ := Lib.hid (HTZ.out.below hb)
    replace HTB := Lib.hid (HTB.out.below hb)
    clear hb
    go_wp2_with fail
    refine calls_name fun W10 hW => ?_
    have HL_W10 := Lib.hid (show Below wj.heap.size wj W10 by rw [← hW]; exact BlA)
    have hs_W10 : wj.heap.size ≤ W10.heap.size := by rw [← hW]; (first | omega | (simp; done) | (simp; omega))
    replace k_A_0 : W10.cell? ⟨w.heap.size, 0, none⟩ = some (.bool s2) := (HL_W10.out.cell (p := ⟨w.heap.size, 0, none⟩) hl_A).trans k_A_0
    replace k_A_1 : W10.cell? ⟨w.heap.size, 1, none⟩ = some (.slice a2 na2 ca2) := (HL_W10.out.cell (p := ⟨w.heap.size, 1, none⟩) hl_A).trans k_A_1
    replace k_A_2 : W10.cell? ⟨w.heap.size, 2, none⟩ = some (.slice d2 nd2 cd2) := (HL_W10.out.cell (p := ⟨w.heap.size, 2, none⟩) hl_A).trans k_A_2
    replace f_A : ∀ o, W10.frozen? ⟨w.heap.size, o, none⟩ = false := fun o => (HL_W10.out.frozen (p := ⟨w.heap.size, o, none⟩) hl_A).trans (f_A o)
    replace HX_A := Lib.hid (show Bn W10 (w.heap.size) by rw [← hW]; exact KpA)
    replace HB := Lib.hid (show Below w.heap.size w W10 by rw [← hW]; exact BlA)
    replace hN : N ≤ W10.heap.size := by rw [← hW]; (first | omega | (simp; done) | (simp; omega))
    replace hs0 : w.heap.size ≤ W10.heap.size := by rw [← hW]; (first | omega | (simp; done) | (simp; omega))
    replace hl_A : w.heap.size < W10.heap.size := by rw [← hW]; (first | omega | (simp; done) | (simp; omega))
    replace HT := Lib.hid (HT.out.below HL_W10.out)
    replace HAL := Lib.hid (HAL.out.below HL_W10.out)
    replace HTZ := Lib.hid (HTZ.out.below HL_W10.out)
    replace HTB := Lib.hid (HTB.out.below HL_W10.out)
    clear HL_W10
    clear hW
    refine (class_ok (N := N) _ m _ (swS t) _ hN HTB.out (by omega) HBD.out.sw.cnt (HBD.out.sw.sup hm6) _ _ _ _ _ _ _ L al HAL.out hL true HPB.out d HD.out).mono ?_
    rintro e wk ⟨rfl, hb⟩
    have hs_wk : W10.heap.size ≤ wk.heap.size := hb.size
    replace k_A_0 : wk.cell? ⟨w.heap.size, 0, none⟩ = some (.bool s2) := (hb.cell (p := ⟨w.heap.size, 0, none⟩) hl_A).trans k_A_0
    replace k_A_1 : wk.cell? ⟨w.heap.size, 1, none⟩ = some (.slice a2 na2 ca2) := (hb.cell (p := ⟨w.heap.size, 1, none⟩) hl_A).trans k_A_1
    replace k_A_2 : wk.cell? ⟨w.heap.size, 2, none⟩ = some (.slice d2 nd2 cd2) := (hb.cell (p := ⟨w.heap.size, 2, none⟩) hl_A).trans k_A_2
    replace f_A : ∀ o, wk.frozen? ⟨w.heap.size, o, none⟩ = false := fun o => (hb.frozen (p := ⟨w.heap.size, o, none⟩) hl_A).trans (f_A o)
    replace HX_A := Lib.hid (HX_A.out.below hb)
    replace HB := Lib.hid (HB.out.trans (hb.mono hs0))
    replace hN : N ≤ wk.heap.size := Nat.le_trans hN hb.size
    replace hs0 : w.heap.size ≤ wk.heap.size := Nat.le_trans hs0 hb.size
    replace hl_A : w.heap.size < wk.heap.size := Nat.lt_of_lt_of_le hl_A hb.size
    replace HT := Lib.hid (HT.out.below hb)
    replace HAL := Lib.hid (HAL.out.below hb)
    replace HTZ := Lib.hid (HTZ.out.below hb)
    replace HTB := Lib.hid (HTB.out.below hb)
    clear hb
    go_wp2_with fail
    refine calls_name fun W11 hW => ?_
    have HL_W11 := Lib.hid (show Below wk.heap.size wk W11 by rw [← hW]; exact BlA)
    have hs_W11 : wk.heap.size ≤ W11.heap.size := by rw [← hW]; (first | omega | (simp; done) | (simp; omega))
    replace k_A_0 : W11.cell? ⟨w.heap.size, 0, none⟩ = some (.bool s2) := (HL_W11.out.cell (p := ⟨w.heap.size, 0, none⟩) hl_A).trans k_A_0
    replace k_A_1 : W11.cell? ⟨w.heap.size, 1, none⟩ = some (.slice a2 na2 ca2) := (HL_W11.out.cell (p := ⟨w.heap.size, 1, none⟩) hl_A).trans k_A_1
    replace k_A_2 : W11.cell? ⟨w.heap.size, 2, none⟩ = some (.slice d2 nd2 cd2) := (HL_W11.out.cell (p := ⟨w.heap.size, 2, none⟩) hl_A).trans k_A_2
    replace f_A : ∀ o, W11.frozen? ⟨w.heap.size, o, none⟩ = false := fun o => (HL_W11.out.frozen (p := ⟨w.heap.size, o, none⟩) hl_A).trans (f_A o)
    replace HX_A := Lib.hid (show Bn W11 (w.heap.size) by rw [← hW]; exact KpA)
    replace HB := Lib.hid (show Below w.heap.size w W11 by rw [← hW]; exact BlA)
    replace hN : N ≤ W11.heap.size := by rw [← hW]; (first | omega | (simp; done) | (simp; omega))
    replace hs0 : w.heap.size ≤ W11.heap.size := by rw [← hW]; (first | omega | (simp; done) | (simp; omega))
    replace hl_A : w.heap.size < W11.heap.size := by rw [← hW]; (first | omega | (simp; done) | (simp; omega))
    replace HT := Lib.hid (HT.out.below HL_W11.out)
    replace HAL := Lib.hid (HAL.out.below HL_W11.out)
    replace HTZ := Lib.hid (HTZ.out.below HL_W11.out)
    replace HTB := Lib.hid (HTB.out.below HL_W11.out)
    clear HL_W11
    clear hW
    refine (fawake_any (N := N) _ hN HT.out).mono ?_
    rintro e wl ⟨rfl, hb⟩
    have hs_wl : W11.heap.size ≤ wl.heap.size := hb.size
    replace k_A_0 : wl.cell? ⟨w.heap.size, 0, none⟩ = some (.bool s2) := (hb.cell (p := ⟨w.heap.size, 0, none⟩) hl_A).trans k_A_0
    replace k_A_1 : wl.cell? ⟨w.heap.size, 1, none⟩ = some (.slice a2 na2 ca2) := (hb.cell (p := ⟨w.heap.size, 1, none⟩) hl_A).trans k_A_1
    replace k_A_2 : wl.cell? ⟨w.heap.size, 2, none⟩ = some (.slice d2 nd2 cd2) := (hb.cell (p := ⟨w.heap.size, 2, none⟩) hl_A).trans k_A_2
    replace f_A : ∀ o, wl.frozen? ⟨w.heap.size, o, none⟩ = false := fun o => (hb.frozen (p := ⟨w.heap.size, o, none⟩) hl_A).trans (f_A o)
    replace HX_A := Lib.hid (HX_A.out.below hb)
    replace HB := Lib.hid (HB.out.trans (hb.mono hs0))
    replace hN : N ≤ wl.heap.size := Nat.le_trans hN hb.size
    replace hs0 : w.heap.size ≤ wl.heap.size := Nat.le_trans hs0 hb.size
    replace hl_A : w.heap.size < wl.heap.size := Nat.lt_of_lt_of_le hl_A hb.size
    replace HT := Lib.hid (HT.out.below hb)
    replace HAL := Lib.hid (HAL.out.below hb)
    replace HTZ := Lib.hid (HTZ.out.below hb)
    replace HTB := Lib.hid (HTB.out.below hb)
    clear hb
    go_wp2_with fail
    go_ret
    exact ⟨rfl, HB.out⟩

end Go.Proofs.YtmecipfdelgfbaaDoor
