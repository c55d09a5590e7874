import Derived.Test.YtnillajhhimeiaaGreatDoorDrY
namespace Go.Proofs.YtnillajhhimeiaaGreatDoor
open Go.RowKit
theorem Bs.nil (w : World) : Bs w none 0 0 (fun _ => false) := ⟨Nat.le_refl _, Nat.zero_le _, fun h => by omega⟩
set_option maxHeartbeats 8000000 in
theorem dcor_ok {N : Nat} (a : Option Addr) (n cap : Nat) (q : Nat → Rat) (s2 : Bool) (a2 d2 : Option Addr) (na2 ca2 nd2 cd2 L : Nat) (al : Rat) (w : World) (hN : N ≤ w.heap.size) (h : Rs N w a n cap q L) (h2 : Rt N w s2 a2 na2 ca2 d2 nd2 cd2 al L) (hL : L ≤ 2097152) (htab : TabW w) (hc : chkC q n al = 0) :
    Calls Tryz.prog 4 #[.slice a n cap, .agg #[.bool s2, .slice a2 na2 ca2, .slice d2 nd2 cd2]] w fun e w' => e = .returned (.bool true) ∧ Below w.heap.size w w' := by
  have HC := Lib.hid hc
  obtain ⟨h60, _, _⟩ := chk_ok hc
  clear hc
  have HA := Lib.hid h
  have HAA := Lib.hid h2
  have HT := Lib.hid htab
  have bc := h.1
  have bm := h.2.1
  unfold maxLen at bm
  clear h h2 htab
  have hN0 := hN
  have HB := Lib.hid (Below.refl w.heap.size w)
  go_enter Tryz.func4, Tryz.ntmps4
  go_wp2_with fail
  refine calls_name fun W0 hW => ?_
  have hs_W0 : w.heap.size ≤ W0.heap.size := by rw [← hW]; (first | omega | (simp; done) | (simp; omega))
  have HL_W0 := Lib.hid (show Below w.heap.size w W0 by rw [← hW]; exact BlA)
  have k_A_0 : W0.cell? ⟨w.heap.size, 0, none⟩ = some (.bool s2) := by rw [← hW]; (first | (go_simp; done) | (simp; done) | (simp [go_sem]; done) | (simp [go_sem]; done))
  have k_A_1 : W0.cell? ⟨w.heap.size, 1, none⟩ = some (.slice a2 na2 ca2) := by rw [← hW]; (first | (go_simp; done) | (simp; done) | (simp [go_sem]; done) | (simp [go_sem]; done))
  have k_A_2 : W0.cell? ⟨w.heap.size, 2, none⟩ = some (.slice d2 nd2 cd2) := by rw [← hW]; (first | (go_simp; done) | (simp; done) | (simp [go_sem]; done) | (simp [go_sem]; done))
  have f_A : ∀ o, W0.frozen? ⟨w.heap.size, o, none⟩ = false := by intro o; rw [← hW]; (first | (go_simp; done) | (simp; done) | (simp [go_sem]; done) | (simp [go_sem]; done))
  have HX_A := Lib.hid (show Bn W0 (w.heap.size) by rw [← hW]; exact KpA)
  replace HB := Lib.hid (show Below w.heap.size w W0 by rw [← hW]; exact BlA)
  replace hN : N ≤ W0.heap.size := by rw [← hW]; (first | omega | (simp; done) | (simp; omega))
  have hs0 : w.heap.size ≤ W0.heap.size := by rw [← hW]; (first | omega | (simp; done) | (simp; omega))
  have hl_A : w.heap.size < W0.heap.size := by rw [← hW]; (first | omega | (simp; done) | (simp; omega))
  replace HA := Lib.hid (HA.out.below HL_W0.out)
  replace HAA := Lib.hid (HAA.out.below HL_W0.out)
  replace HT := Lib.hid (HT.out.below HL_W0.out)
  clear HL_W0
  clear hW
  refine (bonf_ok (N := N) _ n _ q _ _ _ _ _ _ _ L al _ hN HA.out HAA.out hL HC.out).mono ?_
  rintro e wa0 ⟨bb0, rfl, l1, l2, hl, hb⟩
  have hs_wa0 : W0.heap.size ≤ wa0.heap.size := hb.size
  replace k_A_0 : wa0.cell? ⟨w.heap.size, 0, none⟩ = some (.bool s2) := (hb.cell (p := ⟨w.heap.size, 0, none⟩) hl_A).trans k_A_0
  replace k_A_1 : wa0.cell? ⟨w.heap.size, 1, none⟩ = some (.slice a2 na2 ca2) := (hb.cell (p := ⟨w.heap.size, 1, none⟩) hl_A).trans k_A_1
  replace k_A_2 : wa0.cell? ⟨w.heap.size, 2, none⟩ = some (.slice d2 nd2 cd2) := (hb.cell (p := ⟨w.heap.size, 2, none⟩) hl_A).trans k_A_2
  replace f_A : ∀ o, wa0.frozen? ⟨w.heap.size, o, none⟩ = false := fun o => (hb.frozen (p := ⟨w.heap.size, o, none⟩) hl_A).trans (f_A o)
  replace HX_A := Lib.hid (HX_A.out.below hb)
  replace HB := Lib.hid (HB.out.trans (hb.mono hs0))
  replace hN : N ≤ wa0.heap.size := Nat.le_trans hN hb.size
  replace hs0 : w.heap.size ≤ wa0.heap.size := Nat.le_trans hs0 hb.size
  replace hl_A : w.heap.size < wa0.heap.size := Nat.lt_of_lt_of_le hl_A hb.size
  replace HA := Lib.hid (HA.out.below hb)
  replace HAA := Lib.hid (HAA.out.below hb)
  replace HT := Lib.hid (HT.out.below hb)
  clear hb
  have HP0 := Lib.hid (Rw.bs hl (by unfold maxLen; omega))
  clear hl
  go_wp2_with fail
  refine calls_name fun X0 hW => ?_
  have HL_X0 := Lib.hid (show Below wa0.heap.size wa0 X0 by rw [← hW]; exact BlA)
  have hs_X0 : wa0.heap.size ≤ X0.heap.size := by rw [← hW]; (first | omega | (simp; done) | (simp; omega))
  replace k_A_0 : X0.cell? ⟨w.heap.size, 0, none⟩ = some (.bool s2) := (HL_X0.out.cell (p := ⟨w.heap.size, 0, none⟩) hl_A).trans k_A_0
  replace k_A_1 : X0.cell? ⟨w.heap.size, 1, none⟩ = some (.slice a2 na2 ca2) := (HL_X0.out.cell (p := ⟨w.heap.size, 1, none⟩) hl_A).trans k_A_1
  replace k_A_2 : X0.cell? ⟨w.heap.size, 2, none⟩ = some (.slice d2 nd2 cd2) := (HL_X0.out.cell (p := ⟨w.heap.size, 2, none⟩) hl_A).trans k_A_2
  replace f_A : ∀ o, X0.frozen? ⟨w.heap.size, o, none⟩ = false := fun o => (HL_X0.out.frozen (p := ⟨w.heap.size, o, none⟩) hl_A).trans (f_A o)
  replace HX_A := Lib.hid (show Bn X0 (w.heap.size) by rw [← hW]; exact KpA)
  replace HB := Lib.hid (show Below w.heap.size w X0 by rw [← hW]; exact BlA)
  replace hN : N ≤ X0.heap.size := by rw [← hW]; (first | omega | (simp; done) | (simp; omega))
  replace hs0 : w.heap.size ≤ X0.heap.size := by rw [← hW]; (first | omega | (simp; done) | (simp; omega))
  replace hl_A : w.heap.size < X0.heap.size := by rw [← hW]; (first | omega | (simp; done) | (simp; omega))
  replace HA := Lib.hid (HA.out.below HL_X0.out)
  replace HAA := Lib.hid (HAA.out.below HL_X0.out)
  replace HT := Lib.hid (HT.out.below HL_X0.out)
  replace HP0 := Lib.hid (HP0.out.below HL_X0.out)
  clear HL_X0
  clear hW
  refine (xbonf_ok (N := N) _ n _ q _ _ _ _ _ _ _ L al _ hN HA.out HAA.out hL HC.out).mono ?_
  rintro e wb0 ⟨p0, c0, rfl, hl, hb⟩
  have hs_wb0 : X0.heap.size ≤ wb0.heap.size := hb.size
  replace k_A_0 : wb0.cell? ⟨w.heap.size, 0, none⟩ = some (.bool s2) := (hb.cell (p := ⟨w.heap.size, 0, none⟩) hl_A).trans k_A_0
  replace k_A_1 : wb0.cell? ⟨w.heap.size, 1, none⟩ = some (.slice a2 na2 ca2) := (hb.cell (p := ⟨w.heap.size, 1, none⟩) hl_A).trans k_A_1
  replace k_A_2 : wb0.cell? ⟨w.heap.size, 2, none⟩ = some (.slice d2 nd2 cd2) := (hb.cell (p := ⟨w.heap.size, 2, none⟩) hl_A).trans k_A_2
  replace f_A : ∀ o, wb0.frozen? ⟨w.heap.size, o, none⟩ = false := fun o => (hb.frozen (p := ⟨w.heap.size, o, none⟩) hl_A).trans (f_A o)
  replace HX_A := Lib.hid (HX_A.out.below hb)
  replace HB := Lib.hid (HB.out.trans (hb.mono hs0))
  replace hN : N ≤ wb0.heap.size := Nat.le_trans hN hb.size
  replace hs0 : w.heap.size ≤ wb0.heap.size := Nat.le_trans hs0 hb.size
  replace hl_A : w.heap.size < wb0.heap.size := Nat.lt_of_lt_of_le hl_A hb.size
  replace HA := Lib.hid (HA.out.below hb)
  replace HAA := Lib.hid (HAA.out.below hb)
  replace HT := Lib.hid (HT.out.below hb)
  replace HP0 := Lib.hid (HP0.out.below hb)
  clear hb
  have HR0 := Lib.hid hl
  have hq0 := hl.1
  have hr0 := hl.2.1
  unfold maxLen at hr0
  clear hl
  go_wp2_with fail
  refine calls_name fun Y0 hW => ?_
  have HL_Y0 := Lib.hid (show Below wb0.heap.size wb0 Y0 by rw [← hW]; exact BlA)
  have hs_Y0 : wb0.heap.size ≤ Y0.heap.size := by rw [← hW]; (first | omega | (simp; done) | (simp; omega))
  replace k_A_0 : Y0.cell? ⟨w.heap.size, 0, none⟩ = some (.bool s2) := (HL_Y0.out.cell (p := ⟨w.heap.size, 0, none⟩) hl_A).trans k_A_0
  replace k_A_1 : Y0.cell? ⟨w.heap.size, 1, none⟩ = some (.slice a2 na2 ca2) := (HL_Y0.out.cell (p := ⟨w.heap.size, 1, none⟩) hl_A).trans k_A_1
  replace k_A_2 : Y0.cell? ⟨w.heap.size, 2, none⟩ = some (.slice d2 nd2 cd2) := (HL_Y0.out.cell (p := ⟨w.heap.size, 2, none⟩) hl_A).trans k_A_2
  replace f_A : ∀ o, Y0.frozen? ⟨w.heap.size, o, none⟩ = false := fun o => (HL_Y0.out.frozen (p := ⟨w.heap.size, o, none⟩) hl_A).trans (f_A o)
  replace HX_A := Lib.hid (show Bn Y0 (w.heap.size) by rw [← hW]; exact KpA)
  replace HB := Lib.hid (show Below w.heap.size w Y0 by rw [← hW]; exact BlA)
  replace hN : N ≤ Y0.heap.size := by rw [← hW]; (first | omega | (simp; done) | (simp; omega))
  replace hs0 : w.heap.size ≤ Y0.heap.size := by rw [← hW]; (first | omega | (simp; done) | (simp; omega))
  replace hl_A : w.heap.size < Y0.heap.size := by rw [← hW]; (first | omega | (simp; done) | (simp; omega))
  replace HA := Lib.hid (HA.out.below HL_Y0.out)
  replace HAA := Lib.hid (HAA.out.below HL_Y0.out)
  replace HT := Lib.hid (HT.out.below HL_Y0.out)
  replace HP0 := Lib.hid (HP0.out.below HL_Y0.out)
  replace HR0 := Lib.hid (HR0.out.below HL_Y0.out)
  clear HL_Y0
  clear hW
  refine (SameBools_any _ _ n _ _ _ _ HP0.out HR0.out).mono ?_
  rintro e wc0 ⟨rfl, hb⟩
  have hs_wc0 : Y0.heap.size ≤ wc0.heap.size := hb.size
  replace k_A_0 : wc0.cell? ⟨w.heap.size, 0, none⟩ = some (.bool s2) := (hb.cell (p := ⟨w.heap.size, 0, none⟩) hl_A).trans k_A_0
  replace k_A_1 : wc0.cell? ⟨w.heap.size, 1, none⟩ = some (.slice a2 na2 ca2) := (hb.cell (p := ⟨w.heap.size, 1, none⟩) hl_A).trans k_A_1
  replace k_A_2 : wc0.cell? ⟨w.heap.size, 2, none⟩ = some (.slice d2 nd2 cd2) := (hb.cell (p := ⟨w.heap.size, 2, none⟩) hl_A).trans k_A_2
  replace f_A : ∀ o, wc0.frozen? ⟨w.heap.size, o, none⟩ = false := fun o => (hb.frozen (p := ⟨w.heap.size, o, none⟩) hl_A).trans (f_A o)
  replace HX_A := Lib.hid (HX_A.out.below hb)
  replace HB := Lib.hid (HB.out.trans (hb.mono hs0))
  replace hN : N ≤ wc0.heap.size := Nat.le_trans hN hb.size
  replace hs0 : w.heap.size ≤ wc0.heap.size := Nat.le_trans hs0 hb.size
  replace hl_A : w.heap.size < wc0.heap.size := Nat.lt_of_lt_of_le hl_A hb.size
  replace HA := Lib.hid (HA.out.below hb)
  replace HAA := Lib.hid (HAA.out.below hb)
  replace HT := Lib.hid (HT.out.below hb)
  replace HP0 := Lib.hid (HP0.out.below hb)
  replace HR0 := Lib.hid (HR0.out.below hb)
  clear hb
  clear HP0
  clear HR0
  go_wp2_with fail
  refine calls_name fun Z0 hW => ?_
  have HL_Z0 := Lib.hid (show Below wc0.heap.size wc0 Z0 by rw [← hW]; exact BlA)
  have hs_Z0 : wc0.heap.size ≤ Z0.heap.size := by rw [← hW]; (first | omega | (simp; done) | (simp; omega))
  replace k_A_0 : Z0.cell? ⟨w.heap.size, 0, none⟩ = some (.bool s2) := (HL_Z0.out.cell (p := ⟨w.heap.size, 0, none⟩) hl_A).trans k_A_0
  replace k_A_1 : Z0.cell? ⟨w.heap.size, 1, none⟩ = some (.slice a2 na2 ca2) := (HL_Z0.out.cell (p := ⟨w.heap.size, 1, none⟩) hl_A).trans k_A_1
  replace k_A_2 : Z0.cell? ⟨w.heap.size, 2, none⟩ = some (.slice d2 nd2 cd2) := (HL_Z0.out.cell (p := ⟨w.heap.size, 2, none⟩) hl_A).trans k_A_2
  replace f_A : ∀ o, Z0.frozen? ⟨w.heap.size, o, none⟩ = false := fun o => (HL_Z0.out.frozen (p := ⟨w.heap.size, o, none⟩) hl_A).trans (f_A o)
  replace HX_A := Lib.hid (show Bn Z0 (w.heap.size) by rw [← hW]; exact KpA)
  replace HB := Lib.hid (show Below w.heap.size w Z0 by rw [← hW]; exact BlA)
  replace hN : N ≤ Z0.heap.size := by rw [← hW]; (first | omega | (simp; done) | (simp; omega))
  replace hs0 : w.heap.size ≤ Z0.heap.size := by rw [← hW]; (first | omega | (simp; done) | (simp; omega))
  replace hl_A : w.heap.size < Z0.heap.size := by rw [← hW]; (first | omega | (simp; done) | (simp; omega))
  replace HA := Lib.hid (HA.out.below HL_Z0.out)
  replace HAA := Lib.hid (HAA.out.below HL_Z0.out)
  replace HT := Lib.hid (HT.out.below HL_Z0.out)
  clear HL_Z0
  clear hW
  refine (holm_ok (N := N) _ n _ q _ _ _ _ _ _ _ L al _ hN HA.out HAA.out hL HC.out).mono ?_
  rintro e wa1 ⟨bb1, rfl, l1, l2, hl, hb⟩
  have hs_wa1 : Z0.heap.size ≤ wa1.heap.size := hb.size
  replace k_A_0 : wa1.cell? ⟨w.heap.size, 0, none⟩ = some (.bool s2) := (hb.cell (p := ⟨w.heap.size, 0, none⟩) hl_A).trans k_A_0
  replace k_A_1 : wa1.cell? ⟨w.heap.size, 1, none⟩ = some (.slice a2 na2 ca2) := (hb.cell (p := ⟨w.heap.size, 1, none⟩) hl_A).trans k_A_1
  replace k_A_2 : wa1.cell? ⟨w.heap.size, 2, none⟩ = some (.slice d2 nd2 cd2) := (hb.cell (p := ⟨w.heap.size, 2, none⟩) hl_A).trans k_A_2
  replace f_A : ∀ o, wa1.frozen? ⟨w.heap.size, o, none⟩ = false := fun o => (hb.frozen (p := ⟨w.heap.size, o, none⟩) hl_A).trans (f_A o)
  replace HX_A := Lib.hid (HX_A.out.below hb)
  replace HB := Lib.hid (HB.out.trans (hb.mono hs0))
  replace hN : N ≤ wa1.heap.size := Nat.le_trans hN hb.size
  replace hs0 : w.heap.size ≤ wa1.heap.size := Nat.le_trans hs0 hb.size
  replace hl_A : w.heap.size < wa1.heap.size := Nat.lt_of_lt_of_le hl_A hb.size
  replace HA := Lib.hid (HA.out.below hb)
  replace HAA := Lib.hid (HAA.out.below hb)
  replace HT := Lib.hid (HT.out.below hb)
  clear hb
  have HP1 := Lib.hid (Rw.bs hl (by unfold maxLen; omega))
  clear hl
  go_wp2_with fail
  refine calls_name fun X1 hW => ?_
  have HL_X1 := Lib.hid (show Below wa1.heap.size wa1 X1 by rw [← hW]; exact BlA)
  have hs_X1 : wa1.heap.size ≤ X1.heap.size := by rw [← hW]; (first | omega | (simp; done) | (simp; omega))
  replace k_A_0 : X1.cell? ⟨w.heap.size, 0, none⟩ = some (.bool s2) := (HL_X1.out.cell (p := ⟨w.heap.size, 0, none⟩) hl_A).trans k_A_0
  replace k_A_1 : X1.cell? ⟨w.heap.size, 1, none⟩ = some (.slice a2 na2 ca2) := (HL_X1.out.cell (p := ⟨w.heap.size, 1, none⟩) hl_A).trans k_A_1
  replace k_A_2 : X1.cell? ⟨w.heap.size, 2, none⟩ = some (.slice d2 nd2 cd2) := (HL_X1.out.cell (p := ⟨w.heap.size, 2, none⟩) hl_A).trans k_A_2
  replace f_A : ∀ o, X1.frozen? ⟨w.heap.size, o, none⟩ = false := fun o => (HL_X1.out.frozen (p := ⟨w.heap.size, o, none⟩) hl_A).trans (f_A o)
  replace HX_A := Lib.hid (show Bn X1 (w.heap.size) by rw [← hW]; exact KpA)
  replace HB := Lib.hid (show Below w.heap.size w X1 by rw [← hW]; exact BlA)
  replace hN : N ≤ X1.heap.size := by rw [← hW]; (first | omega | (simp; done) | (simp; omega))
  replace hs0 : w.heap.size ≤ X1.heap.size := by rw [← hW]; (first | omega | (simp; done) | (simp; omega))
  replace hl_A : w.heap.size < X1.heap.size := by rw [← hW]; (first | omega | (simp; done) | (simp; omega))
  replace HA := Lib.hid (HA.out.below HL_X1.out)
  replace HAA := Lib.hid (HAA.out.below HL_X1.out)
  replace HT := Lib.hid (HT.out.below HL_X1.out)
  replace HP1 := Lib.hid (HP1.out.below HL_X1.out)
  clear HL_X1
  clear hW
  refine (xholm_ok (N := N) _ n _ q _ _ _ _ _ _ _ L al _ hN HA.out HAA.out hL HC.out).mono ?_
  rintro e wb1 ⟨p1, c1, rfl, hl, hb⟩
  have hs_wb1 : X1.heap.size ≤ wb1.heap.size := hb.size
  replace k_A_0 : wb1.cell? ⟨w.heap.size, 0, none⟩ = some (.bool s2) := (hb.cell (p := ⟨w.heap.size, 0, none⟩) hl_A).trans k_A_0
  replace k_A_1 : wb1.cell? ⟨w.heap.size, 1, none⟩ = some (.slice a2 na2 ca2) := (hb.cell (p := ⟨w.heap.size, 1, none⟩) hl_A).trans k_A_1
  replace k_A_2 : wb1.cell? ⟨w.heap.size, 2, none⟩ = some (.slice d2 nd2 cd2) := (hb.cell (p := ⟨w.heap.size, 2, none⟩) hl_A).trans k_A_2
  replace f_A : ∀ o, wb1.frozen? ⟨w.heap.size, o, none⟩ = false := fun o => (hb.frozen (p := ⟨w.heap.size, o, none⟩) hl_A).trans (f_A o)
  replace HX_A := Lib.hid (HX_A.out.below hb)
  replace HB := Lib.hid (HB.out.trans (hb.mono hs0))
  replace hN : N ≤ wb1.heap.size := Nat.le_trans hN hb.size
  replace hs0 : w.heap.size ≤ wb1.heap.size := Nat.le_trans hs0 hb.size
  replace hl_A : w.heap.size < wb1.heap.size := Nat.lt_of_lt_of_le hl_A hb.size
  replace HA := Lib.hid (HA.out.below hb)
  replace HAA := Lib.hid (HAA.out.below hb)
  replace HT := Lib.hid (HT.out.below hb)
  replace HP1 := Lib.hid (HP1.out.below hb)
  clear hb
  have HR1 := Lib.hid hl
  have hq1 := hl.1
  have hr1 := hl.2.1
  unfold maxLen at hr1
  clear hl
  go_wp2_with fail
  refine calls_name fun Y1 hW => ?_
  have HL_Y1 := Lib.hid (show Below wb1.heap.size wb1 Y1 by rw [← hW]; exact BlA)
  have hs_Y1 : wb1.heap.size ≤ Y1.heap.size := by rw [← hW]; (first | omega | (simp; done) | (simp; omega))
  replace k_A_0 : Y1.cell? ⟨w.heap.size, 0, none⟩ = some (.bool s2) := (HL_Y1.out.cell (p := ⟨w.heap.size, 0, none⟩) hl_A).trans k_A_0
  replace k_A_1 : Y1.cell? ⟨w.heap.size, 1, none⟩ = some (.slice a2 na2 ca2) := (HL_Y1.out.cell (p := ⟨w.heap.size, 1, none⟩) hl_A).trans k_A_1
  replace k_A_2 : Y1.cell? ⟨w.heap.size, 2, none⟩ = some (.slice d2 nd2 cd2) := (HL_Y1.out.cell (p := ⟨w.heap.size, 2, none⟩) hl_A).trans k_A_2
  replace f_A : ∀ o, Y1.frozen? ⟨w.heap.size, o, none⟩ = false := fun o => (HL_Y1.out.frozen (p := ⟨w.heap.size, o, none⟩) hl_A).trans (f_A o)
  replace HX_A := Lib.hid (show Bn Y1 (w.heap.size) by rw [← hW]; exact KpA)
  replace HB := Lib.hid (show Below w.heap.size w Y1 by rw [← hW]; exact BlA)
  replace hN : N ≤ Y1.heap.size := by rw [← hW]; (first | omega | (simp; done) | (simp; omega))
  replace hs0 : w.heap.size ≤ Y1.heap.size := by rw [← hW]; (first | omega | (simp; done) | (simp; omega))
  replace hl_A : w.heap.size < Y1.heap.size := by rw [← hW]; (first | omega | (simp; done) | (simp; omega))
  replace HA := Lib.hid (HA.out.below HL_Y1.out)
  replace HAA := Lib.hid (HAA.out.below HL_Y1.out)
  replace HT := Lib.hid (HT.out.below HL_Y1.out)
  replace HP1 := Lib.hid (HP1.out.below HL_Y1.out)
  replace HR1 := Lib.hid (HR1.out.below HL_Y1.out)
  clear HL_Y1
  clear hW
  refine (SameBools_any _ _ n _ _ _ _ HP1.out HR1.out).mono ?_
  rintro e wc1 ⟨rfl, hb⟩
  have hs_wc1 : Y1.heap.size ≤ wc1.heap.size := hb.size
  replace k_A_0 : wc1.cell? ⟨w.heap.size, 0, none⟩ = some (.bool s2) := (hb.cell (p := ⟨w.heap.size, 0, none⟩) hl_A).trans k_A_0
  replace k_A_1 : wc1.cell? ⟨w.heap.size, 1, none⟩ = some (.slice a2 na2 ca2) := (hb.cell (p := ⟨w.heap.size, 1, none⟩) hl_A).trans k_A_1
  replace k_A_2 : wc1.cell? ⟨w.heap.size, 2, none⟩ = some (.slice d2 nd2 cd2) := (hb.cell (p := ⟨w.heap.size, 2, none⟩) hl_A).trans k_A_2
  replace f_A : ∀ o, wc1.frozen? ⟨w.heap.size, o, none⟩ = false := fun o => (hb.frozen (p := ⟨w.heap.size, o, none⟩) hl_A).trans (f_A o)
  replace HX_A := Lib.hid (HX_A.out.below hb)
  replace HB := Lib.hid (HB.out.trans (hb.mono hs0))
  replace hN : N ≤ wc1.heap.size := Nat.le_trans hN hb.size
  replace hs0 : w.heap.size ≤ wc1.heap.size := Nat.le_trans hs0 hb.size
  replace hl_A : w.heap.size < wc1.heap.size := Nat.lt_of_lt_of_le hl_A hb.size
  replace HA := Lib.hid (HA.out.below hb)
  replace HAA := Lib.hid (HAA.out.below hb)
  replace HT := Lib.hid (HT.out.below hb)
  replace HP1 := Lib.hid (HP1.out.below hb)
  replace HR1 := Lib.hid (HR1.out.below hb)
  clear hb
  clear HP1
  clear HR1
  go_wp2_with fail
  refine calls_name fun Z1 hW => ?_
  have HL_Z1 := Lib.hid (show Below wc1.heap.size wc1 Z1 by rw [← hW]; exact BlA)
  have hs_Z1 : wc1.heap.size ≤ Z1.heap.size := by rw [← hW]; (first | omega | (simp; done) | (simp; omega))
  replace k_A_0 : Z1.cell? ⟨w.heap.size, 0, none⟩ = some (.bool s2) := (HL_Z1.out.cell (p := ⟨w.heap.size, 0, none⟩) hl_A).trans k_A_0
  replace k_A_1 : Z1.cell? ⟨w.heap.size, 1, none⟩ = some (.slice a2 na2 ca2) := (HL_Z1.out.cell (p := ⟨w.heap.size, 1, none⟩) hl_A).trans k_A_1
  replace k_A_2 : Z1.cell? ⟨w.heap.size, 2, none⟩ = some (.slice d2 nd2 cd2) := (HL_Z1.out.cell (p := ⟨w.heap.size, 2, none⟩) hl_A).trans k_A_2
  replace f_A : ∀ o, Z1.frozen? ⟨w.heap.size, o, none⟩ = false := fun o => (HL_Z1.out.frozen (p := ⟨w.heap.size, o, none⟩) hl_A).trans (f_A o)
  replace HX_A := Lib.hid (show Bn Z1 (w.heap.size) by rw [← hW]; exact KpA)
  replace HB := Lib.hid (show Below w.heap.size w Z1 by rw [← hW]; exact BlA)
  replace hN : N ≤ Z1.heap.size := by rw [← hW]; (first | omega | (simp; done) | (simp; omega))
  replace hs0 : w.heap.size ≤ Z1.heap.size := by rw [← hW]; (first | omega | (simp; done) | (simp; omega))
  replace hl_A : w.heap.size < Z1.heap.size := by rw [← hW]; (first | omega | (simp; done) | (simp; omega))
  replace HA := Lib.hid (HA.out.below HL_Z1.out)
  replace HAA := Lib.hid (HAA.out.below HL_Z1.out)
  replace HT := Lib.hid (HT.out.below HL_Z1.out)
  clear HL_Z1
  clear hW
  refine (dawake_any (N := N) _ hN HT.out).mono ?_
  rintro e wz ⟨rfl, hb⟩
  have hs_wz : Z1.heap.size ≤ wz.heap.size := hb.size
  replace k_A_0 : wz.cell? ⟨w.heap.size, 0, none⟩ = some (.bool s2) := (hb.cell (p := ⟨w.heap.size, 0, none⟩) hl_A).trans k_A_0
  replace k_A_1 : wz.cell? ⟨w.heap.size, 1, none⟩ = some (.slice a2 na2 ca2) := (hb.cell (p := ⟨w.heap.size, 1, none⟩) hl_A).trans k_A_1
  replace k_A_2 : wz.cell? ⟨w.heap.size, 2, none⟩ = some (.slice d2 nd2 cd2) := (hb.cell (p := ⟨w.heap.size, 2, none⟩) hl_A).trans k_A_2
  replace f_A : ∀ o, wz.frozen? ⟨w.heap.size, o, none⟩ = false := fun o => (hb.frozen (p := ⟨w.heap.size, o, none⟩) hl_A).trans (f_A o)
  replace HX_A := Lib.hid (HX_A.out.below hb)
  replace HB := Lib.hid (HB.out.trans (hb.mono hs0))
  replace hN : N ≤ wz.heap.size := Nat.le_trans hN hb.size
  replace hs0 : w.heap.size ≤ wz.heap.size := Nat.le_trans hs0 hb.size
  replace hl_A : w.heap.size < wz.heap.size := Nat.lt_of_lt_of_le hl_A hb.size
  replace HA := Lib.hid (HA.out.below hb)
  replace HAA := Lib.hid (HAA.out.below hb)
  replace HT := Lib.hid (HT.out.below hb)
  clear hb
  go_wp2_with fail
  go_ret
  exact ⟨rfl, HB.out⟩
set_option maxHeartbeats 8000000 in
theorem dcor_bad {N : Nat} (a : Option Addr) (n cap : Nat) (q : Nat → Rat) (s2 : Bool) (a2 d2 : Option Addr) (na2 ca2 nd2 cd2 L : Nat) (al : Rat) (w : World) (hN : N ≤ w.heap.size) (h : Rs N w a n cap q L) (h2 : Rt N w s2 a2 na2 ca2 d2 nd2 cd2 al L) (hL : L ≤ 2097152) (htab : TabW w) (c : Int) (hc : chkC q n al = c) (h0 : c ≠ 0) :
    Calls Tryz.prog 4 #[.slice a n cap, .agg #[.bool s2, .slice a2 na2 ca2, .slice d2 nd2 cd2]] w fun e w' => e = .returned (.bool true) ∧ Below w.heap.size w w' := by
  have HC := Lib.hid hc
  have z0 : (c == 0) = false := by simpa using h0
  clear hc
  have HA := Lib.hid h
  have HAA := Lib.hid h2
  have HT := Lib.hid htab
  have bc := h.1
  have bm := h.2.1
  unfold maxLen at bm
  clear h h2 htab
  have hN0 := hN
  have HB := Lib.hid (Below.refl w.heap.size w)
  go_enter Tryz.func4, Tryz.ntmps4
  go_wp2_with fail
  refine calls_name fun W0 hW => ?_
  have hs_W0 : w.heap.size ≤ W0.heap.size := by rw [← hW]; (first | omega | (simp; done) | (simp; omega))
  have HL_W0 := Lib.hid (show Below w.heap.size w W0 by rw [← hW]; exact BlA)
  have k_A_0 : W0.cell? ⟨w.heap.size, 0, none⟩ = some (.bool s2) := by rw [← hW]; (first | (go_simp; done) | (simp; done) | (simp [go_sem]; done) | (simp [go_sem]; done))
  have k_A_1 : W0.cell? ⟨w.heap.size, 1, none⟩ = some (.slice a2 na2 ca2) := by rw [← hW]; (first | (go_simp; done) | (simp; done) | (simp [go_sem]; done) | (simp [go_sem]; done))
  have k_A_2 : W0.cell? ⟨w.heap.size, 2, none⟩ = some (.slice d2 nd2 cd2) := by rw [← hW]; (first | (go_simp; done) | (simp; done) | (simp [go_sem]; done) | (simp [go_sem]; done))
  have f_A : ∀ o, W0.frozen? ⟨w.heap.size, o, none⟩ = false := by intro o; rw [← hW]; (first | (go_simp; done) | (simp; done) | (simp [go_sem]; done) | (simp [go_sem]; done))
  have HX_A := Lib.hid (show Bn W0 (w.heap.size) by rw [← hW]; exact KpA)
  replace HB := Lib.hid (show Below w.heap.size w W0 by rw [← hW]; exact BlA)
  replace hN : N ≤ W0.heap.size := by rw [← hW]; (first | omega | (simp; done) | (simp; omega))
  have hs0 : w.heap.size ≤ W0.heap.size := by rw [← hW]; (first | omega | (simp; done) | (simp; omega))
  have hl_A : w.heap.size < W0.heap.size := by rw [← hW]; (first | omega | (simp; done) | (simp; omega))
  replace HA := Lib.hid (HA.out.below HL_W0.out)
  replace HAA := Lib.hid (HAA.out.below HL_W0.out)
  replace HT := Lib.hid (HT.out.below HL_W0.out)
  clear HL_W0
  clear hW
  refine (bonf_bad (N := N) _ n _ q _ _ _ _ _ _ _ L al _ hN HA.out HAA.out hL c HC.out h0).mono ?_
  rintro e wa0 ⟨rfl, hb⟩
  have hs_wa0 : W0.heap.size ≤ wa0.heap.size := hb.size
  replace k_A_0 : wa0.cell? ⟨w.heap.size, 0, none⟩ = some (.bool s2) := (hb.cell (p := ⟨w.heap.size, 0, none⟩) hl_A).trans k_A_0
  replace k_A_1 : wa0.cell? ⟨w.heap.size, 1, none⟩ = some (.slice a2 na2 ca2) := (hb.cell (p := ⟨w.heap.size, 1, none⟩) hl_A).trans k_A_1
  replace k_A_2 : wa0.cell? ⟨w.heap.size, 2, none⟩ = some (.slice d2 nd2 cd2) := (hb.cell (p := ⟨w.heap.size, 2, none⟩) hl_A).trans k_A_2
  replace f_A : ∀ o, wa0.frozen? ⟨w.heap.size, o, none⟩ = false := fun o => (hb.frozen (p := ⟨w.heap.size, o, none⟩) hl_A).trans (f_A o)
  replace HX_A := Lib.hid (HX_A.out.below hb)
  replace HB := Lib.hid (HB.out.trans (hb.mono hs0))
  replace hN : N ≤ wa0.heap.size := Nat.le_trans hN hb.size
  replace hs0 : w.heap.size ≤ wa0.heap.size := Nat.le_trans hs0 hb.size
  replace hl_A : w.heap.size < wa0.heap.size := Nat.lt_of_lt_of_le hl_A hb.size
  replace HA := Lib.hid (HA.out.below hb)
  replace HAA := Lib.hid (HAA.out.below hb)
  replace HT := Lib.hid (HT.out.below hb)
  clear hb
  go_wp2_with fail
  refine calls_name fun X0 hW => ?_
  have HL_X0 := Lib.hid (show Below wa0.heap.size wa0 X0 by rw [← hW]; exact BlA)
  have hs_X0 : wa0.heap.size ≤ X0.heap.size := by rw [← hW]; (first | omega | (simp; done) | (simp; omega))
  replace k_A_0 : X0.cell? ⟨w.heap.size, 0, none⟩ = some (.bool s2) := (HL_X0.out.cell (p := ⟨w.heap.size, 0, none⟩) hl_A).trans k_A_0
  replace k_A_1 : X0.cell? ⟨w.heap.size, 1, none⟩ = some (.slice a2 na2 ca2) := (HL_X0.out.cell (p := ⟨w.heap.size, 1, none⟩) hl_A).trans k_A_1
  replace k_A_2 : X0.cell? ⟨w.heap.size, 2, none⟩ = some (.slice d2 nd2 cd2) := (HL_X0.out.cell (p := ⟨w.heap.size, 2, none⟩) hl_A).trans k_A_2
  replace f_A : ∀ o, X0.frozen? ⟨w.heap.size, o, none⟩ = false := fun o => (HL_X0.out.frozen (p := ⟨w.heap.size, o, none⟩) hl_A).trans (f_A o)
  replace HX_A := Lib.hid (show Bn X0 (w.heap.size) by rw [← hW]; exact KpA)
  replace HB := Lib.hid (show Below w.heap.size w X0 by rw [← hW]; exact BlA)
  replace hN : N ≤ X0.heap.size := by rw [← hW]; (first | omega | (simp; done) | (simp; omega))
  replace hs0 : w.heap.size ≤ X0.heap.size := by rw [← hW]; (first | omega | (simp; done) | (simp; omega))
  replace hl_A : w.heap.size < X0.heap.size := by rw [← hW]; (first | omega | (simp; done) | (simp; omega))
  replace HA := Lib.hid (HA.out.below HL_X0.out)
  replace HAA := Lib.hid (HAA.out.below HL_X0.out)
  replace HT := Lib.hid (HT.out.below HL_X0.out)
  clear HL_X0
  clear hW
  refine (xbonf_bad (N := N) _ n _ q _ _ _ _ _ _ _ L al _ hN HA.out HAA.out hL c HC.out h0).mono ?_
  rintro e wb0 ⟨rfl, hb⟩
  have hs_wb0 : X0.heap.size ≤ wb0.heap.size := hb.size
  replace k_A_0 : wb0.cell? ⟨w.heap.size, 0, none⟩ = some (.bool s2) := (hb.cell (p := ⟨w.heap.size, 0, none⟩) hl_A).trans k_A_0
  replace k_A_1 : wb0.cell? ⟨w.heap.size, 1, none⟩ = some (.slice a2 na2 ca2) := (hb.cell (p := ⟨w.heap.size, 1, none⟩) hl_A).trans k_A_1
  replace k_A_2 : wb0.cell? ⟨w.heap.size, 2, none⟩ = some (.slice d2 nd2 cd2) := (hb.cell (p := ⟨w.heap.size, 2, none⟩) hl_A).trans k_A_2
  replace f_A : ∀ o, wb0.frozen? ⟨w.heap.size, o, none⟩ = false := fun o => (hb.frozen (p := ⟨w.heap.size, o, none⟩) hl_A).trans (f_A o)
  replace HX_A := Lib.hid (HX_A.out.below hb)
  replace HB := Lib.hid (HB.out.trans (hb.mono hs0))
  replace hN : N ≤ wb0.heap.size := Nat.le_trans hN hb.size
  replace hs0 : w.heap.size ≤ wb0.heap.size := Nat.le_trans hs0 hb.size
  replace hl_A : w.heap.size < wb0.heap.size := Nat.lt_of_lt_of_le hl_A hb.size
  replace HA := Lib.hid (HA.out.below hb)
  replace HAA := Lib.hid (HAA.out.below hb)
  replace HT := Lib.hid (HT.out.below hb)
  clear hb
  go_wp2_with fail
  refine calls_name fun Y0 hW => ?_
  have HL_Y0 := Lib.hid (show Below wb0.heap.size wb0 Y0 by rw [← hW]; exact BlA)
  have hs_Y0 : wb0.heap.size ≤ Y0.heap.size := by rw [← hW]; (first | omega | (simp; done) | (simp; omega))
  replace k_A_0 : Y0.cell? ⟨w.heap.size, 0, none⟩ = some (.bool s2) := (HL_Y0.out.cell (p := ⟨w.heap.size, 0, none⟩) hl_A).trans k_A_0
  replace k_A_1 : Y0.cell? ⟨w.heap.size, 1, none⟩ = some (.slice a2 na2 ca2) := (HL_Y0.out.cell (p := ⟨w.heap.size, 1, none⟩) hl_A).trans k_A_1
  replace k_A_2 : Y0.cell? ⟨w.heap.size, 2, none⟩ = some (.slice d2 nd2 cd2) := (HL_Y0.out.cell (p := ⟨w.heap.size, 2, none⟩) hl_A).trans k_A_2
  replace f_A : ∀ o, Y0.frozen? ⟨w.heap.size, o, none⟩ = false := fun o => (HL_Y0.out.frozen (p := ⟨w.heap.size, o, none⟩) hl_A).trans (f_A o)
  replace HX_A := Lib.hid (show Bn Y0 (w.heap.size) by rw [← hW]; exact KpA)
  replace HB := Lib.hid (show Below w.heap.size w Y0 by rw [← hW]; exact BlA)
  replace hN : N ≤ Y0.heap.size := by rw [← hW]; (first | omega | (simp; done) | (simp; omega))
  replace hs0 : w.heap.size ≤ Y0.heap.size := by rw [← hW]; (first | omega | (simp; done) | (simp; omega))
  replace hl_A : w.heap.size < Y0.heap.size := by rw [← hW]; (first | omega | (simp; done) | (simp; omega))
  replace HA := Lib.hid (HA.out.below HL_Y0.out)
  replace HAA := Lib.hid (HAA.out.below HL_Y0.out)
  replace HT := Lib.hid (HT.out.below HL_Y0.out)
  clear HL_Y0
  clear hW
  refine (SameBools_any _ _ 0 _ _ _ _ (Bs.nil _) (Bs.nil _)).mono ?_
  rintro e wc0 ⟨rfl, hb⟩
  have hs_wc0 : Y0.heap.size ≤ wc0.heap.size := hb.size
  replace k_A_0 : wc0.cell? ⟨w.heap.size, 0, none⟩ = some (.bool s2) := (hb.cell (p := ⟨w.heap.size, 0, none⟩) hl_A).trans k_A_0
  replace k_A_1 : wc0.cell? ⟨w.heap.size, 1, none⟩ = some (.slice a2 na2 ca2) := (hb.cell (p := ⟨w.heap.size, 1, none⟩) hl_A).trans k_A_1
  replace k_A_2 : wc0.cell? ⟨w.heap.size, 2, none⟩ = some (.slice d2 nd2 cd2) := (hb.cell (p := ⟨w.heap.size, 2, none⟩) hl_A).trans k_A_2
  replace f_A : ∀ o, wc0.frozen? ⟨w.heap.size, o, none⟩ = false := fun o => (hb.frozen (p := ⟨w.heap.size, o, none⟩) hl_A).trans (f_A o)
  replace HX_A := Lib.hid (HX_A.out.below hb)
  replace HB := Lib.hid (HB.out.trans (hb.mono hs0))
  replace hN : N ≤ wc0.heap.size := Nat.le_trans hN hb.size
  replace hs0 : w.heap.size ≤ wc0.heap.size := Nat.le_trans hs0 hb.size
  replace hl_A : w.heap.size < wc0.heap.size := Nat.lt_of_lt_of_le hl_A hb.size
  replace HA := Lib.hid (HA.out.below hb)
  replace HAA := Lib.hid (HAA.out.below hb)
  replace HT := Lib.hid (HT.out.below hb)
  clear hb
  go_wp2_with fail
  refine calls_name fun Z0 hW => ?_
  have HL_Z0 := Lib.hid (show Below wc0.heap.size wc0 Z0 by rw [← hW]; exact BlA)
  have hs_Z0 : wc0.heap.size ≤ Z0.heap.size := by rw [← hW]; (first | omega | (simp; done) | (simp; omega))
  replace k_A_0 : Z0.cell? ⟨w.heap.size, 0, none⟩ = some (.bool s2) := (HL_Z0.out.cell (p := ⟨w.heap.size, 0, none⟩) hl_A).trans k_A_0
  replace k_A_1 : Z0.cell? ⟨w.heap.size, 1, none⟩ = some (.slice a2 na2 ca2) := (HL_Z0.out.cell (p := ⟨w.heap.size, 1, none⟩) hl_A).trans k_A_1
  replace k_A_2 : Z0.cell? ⟨w.heap.size, 2, none⟩ = some (.slice d2 nd2 cd2) := (HL_Z0.out.cell (p := ⟨w.heap.size, 2, none⟩) hl_A).trans k_A_2
  replace f_A : ∀ o, Z0.frozen? ⟨w.heap.size, o, none⟩ = false := fun o => (HL_Z0.out.frozen (p := ⟨w.heap.size, o, none⟩) hl_A).trans (f_A o)
  replace HX_A := Lib.hid (show Bn Z0 (w.heap.size) by rw [← hW]; exact KpA)
  replace HB := Lib.hid (show Below w.heap.size w Z0 by rw [← hW]; exact BlA)
  replace hN : N ≤ Z0.heap.size := by rw [← hW]; (first | omega | (simp; done) | (simp; omega))
  replace hs0 : w.heap.size ≤ Z0.heap.size := by rw [← hW]; (first | omega | (simp; done) | (simp; omega))
  replace hl_A : w.heap.size < Z0.heap.size := by rw [← hW]; (first | omega | (simp; done) | (simp; omega))
  replace HA := Lib.hid (HA.out.below HL_Z0.out)
  replace HAA := Lib.hid (HAA.out.below HL_Z0.out)
  replace HT := Lib.hid (HT.out.below HL_Z0.out)
  clear HL_Z0
  clear hW
  refine (holm_bad (N := N) _ n _ q _ _ _ _ _ _ _ L al _ hN HA.out HAA.out hL c HC.out h0).mono ?_
  rintro e wa1 ⟨rfl, hb⟩
  have hs_wa1 : Z0.heap.size ≤ wa1.heap.size := hb.size
  replace k_A_0 : wa1.cell? ⟨w.heap.size, 0, none⟩ = some (.bool s2) := (hb.cell (p := ⟨w.heap.size, 0, none⟩) hl_A).trans k_A_0
  replace k_A_1 : wa1.cell? ⟨w.heap.size, 1, none⟩ = some (.slice a2 na2 ca2) := (hb.cell (p := ⟨w.heap.size, 1, none⟩) hl_A).trans k_A_1
  replace k_A_2 : wa1.cell? ⟨w.heap.size, 2, none⟩ = some (.slice d2 nd2 cd2) := (hb.cell (p := ⟨w.heap.size, 2, none⟩) hl_A).trans k_A_2
  replace f_A : ∀ o, wa1.frozen? ⟨w.heap.size, o, none⟩ = false := fun o => (hb.frozen (p := ⟨w.heap.size, o, none⟩) hl_A).trans (f_A o)
  replace HX_A := Lib.hid (HX_A.out.below hb)
  replace HB := Lib.hid (HB.out.trans (hb.mono hs0))
  replace hN : N ≤ wa1.heap.size := Nat.le_trans hN hb.size
  replace hs0 : w.heap.size ≤ wa1.heap.size := Nat.le_trans hs0 hb.size
  replace hl_A : w.heap.size < wa1.heap.size := Nat.lt_of_lt_of_le hl_A hb.size
  replace HA := Lib.hid (HA.out.below hb)
  replace HAA := Lib.hid (HAA.out.below hb)
  replace HT := Lib.hid (HT.out.below hb)
  clear hb
  go_wp2_with fail
  refine calls_name fun X1 hW => ?_
  have HL_X1 := Lib.hid (show Below wa1.heap.size wa1 X1 by rw [← hW]; exact BlA)
  have hs_X1 : wa1.heap.size ≤ X1.heap.size := by rw [← hW]; (first | omega | (simp; done) | (simp; omega))
  replace k_A_0 : X1.cell? ⟨w.heap.size, 0, none⟩ = some (.bool s2) := (HL_X1.out.cell (p := ⟨w.heap.size, 0, none⟩) hl_A).trans k_A_0
  replace k_A_1 : X1.cell? ⟨w.heap.size, 1, none⟩ = some (.slice a2 na2 ca2) := (HL_X1.out.cell (p := ⟨w.heap.size, 1, none⟩) hl_A).trans k_A_1
  replace k_A_2 : X1.cell? ⟨w.heap.size, 2, none⟩ = some (.slice d2 nd2 cd2) := (HL_X1.out.cell (p := ⟨w.heap.size, 2, none⟩) hl_A).trans k_A_2
  replace f_A : ∀ o, X1.frozen? ⟨w.heap.size, o, none⟩ = false := fun o => (HL_X1.out.frozen (p := ⟨w.heap.size, o, none⟩) hl_A).trans (f_A o)
  replace HX_A := Lib.hid (show Bn X1 (w.heap.size) by rw [← hW]; exact KpA)
  replace HB := Lib.hid (show Below w.heap.size w X1 by rw [← hW]; exact BlA)
  replace hN : N ≤ X1.heap.size := by rw [← hW]; (first | omega | (simp; done) | (simp; omega))
  replace hs0 : w.heap.size ≤ X1.heap.size := by rw [← hW]; (first | omega | (simp; done) | (simp; omega))
  replace hl_A : w.heap.size < X1.heap.size := by rw [← hW]; (first | omega | (simp; done) | (simp; omega))
  replace HA := Lib.hid (HA.out.below HL_X1.out)
  replace HAA := Lib.hid (HAA.out.below HL_X1.out)
  replace HT := Lib.hid (HT.out.below HL_X1.out)
  clear HL_X1
  clear hW
  refine (xholm_bad (N := N) _ n _ q _ _ _ _ _ _ _ L al _ hN HA.out HAA.out hL c HC.out h0).mono ?_
  rintro e wb1 ⟨rfl, hb⟩
  have hs_wb1 : X1.heap.size ≤ wb1.heap.size := hb.size
  replace k_A_0 : wb1.cell? ⟨w.heap.size, 0, none⟩ = some (.bool s2) := (hb.cell (p := ⟨w.heap.size, 0, none⟩) hl_A).trans k_A_0
  replace k_A_1 : wb1.cell? ⟨w.heap.size, 1, none⟩ = some (.slice a2 na2 ca2) := (hb.cell (p := ⟨w.heap.size, 1, none⟩) hl_A).trans k_A_1
  replace k_A_2 : wb1.cell? ⟨w.heap.size, 2, none⟩ = some (.slice d2 nd2 cd2) := (hb.cell (p := ⟨w.heap.size, 2, none⟩) hl_A).trans k_A_2
  replace f_A : ∀ o, wb1.frozen? ⟨w.heap.size, o, none⟩ = false := fun o => (hb.frozen (p := ⟨w.heap.size, o, none⟩) hl_A).trans (f_A o)
  replace HX_A := Lib.hid (HX_A.out.below hb)
  replace HB := Lib.hid (HB.out.trans (hb.mono hs0))
  replace hN : N ≤ wb1.heap.size := Nat.le_trans hN hb.size
  replace hs0 : w.heap.size ≤ wb1.heap.size := Nat.le_trans hs0 hb.size
  replace hl_A : w.heap.size < wb1.heap.size := Nat.lt_of_lt_of_le hl_A hb.size
  replace HA := Lib.hid (HA.out.below hb)
  replace HAA := Lib.hid (HAA.out.below hb)
  replace HT := Lib.hid (HT.out.below hb)
  clear hb
  go_wp2_with fail
  refine calls_name fun Y1 hW => ?_
  have HL_Y1 := Lib.hid (show Below wb1.heap.size wb1 Y1 by rw [← hW]; exact BlA)
  have hs_Y1 : wb1.heap.size ≤ Y1.heap.size := by rw [← hW]; (first | omega | (simp; done) | (simp; omega))
  replace k_A_0 : Y1.cell? ⟨w.heap.size, 0, none⟩ = some (.bool s2) := (HL_Y1.out.cell (p := ⟨w.heap.size, 0, none⟩) hl_A).trans k_A_0
  replace k_A_1 : Y1.cell? ⟨w.heap.size, 1, none⟩ = some (.slice a2 na2 ca2) := (HL_Y1.out.cell (p := ⟨w.heap.size, 1, none⟩) hl_A).trans k_A_1
  replace k_A_2 : Y1.cell? ⟨w.heap.size, 2, none⟩ = some (.slice d2 nd2 cd2) := (HL_Y1.out.cell (p := ⟨w.heap.size, 2, none⟩) hl_A).trans k_A_2
  replace f_A : ∀ o, Y1.frozen? ⟨w.heap.size, o, none⟩ = false := fun o => (HL_Y1.out.frozen (p := ⟨w.heap.size, o, none⟩) hl_A).trans (f_A o)
  replace HX_A := Lib.hid (show Bn Y1 (w.heap.size) by rw [← hW]; exact KpA)
  replace HB := Lib.hid (show Below w.heap.size w Y1 by rw [← hW]; exact BlA)
  replace hN : N ≤ Y1.heap.size := by rw [← hW]; (first | omega | (simp; done) | (simp; omega))
  replace hs0 : w.heap.size ≤ Y1.heap.size := by rw [← hW]; (first | omega | (simp; done) | (simp; omega))
  replace hl_A : w.heap.size < Y1.heap.size := by rw [← hW]; (first | omega | (simp; done) | (simp; omega))
  replace HA := Lib.hid (HA.out.below HL_Y1.out)
  replace HAA := Lib.hid (HAA.out.below HL_Y1.out)
  replace HT := Lib.hid (HT.out.below HL_Y1.out)
  clear HL_Y1
  clear hW
  refine (SameBools_any _ _ 0 _ _ _ _ (Bs.nil _) (Bs.nil _)).mono ?_
  rintro e wc1 ⟨rfl, hb⟩
  have hs_wc1 : Y1.heap.size ≤ wc1.heap.size := hb.size
  replace k_A_0 : wc1.cell? ⟨w.heap.size, 0, none⟩ = some (.bool s2) := (hb.cell (p := ⟨w.heap.size, 0, none⟩) hl_A).trans k_A_0
  replace k_A_1 : wc1.cell? ⟨w.heap.size, 1, none⟩ = some (.slice a2 na2 ca2) := (hb.cell (p := ⟨w.heap.size, 1, none⟩) hl_A).trans k_A_1
  replace k_A_2 : wc1.cell? ⟨w.heap.size, 2, none⟩ = some (.slice d2 nd2 cd2) := (hb.cell (p := ⟨w.heap.size, 2, none⟩) hl_A).trans k_A_2
  replace f_A : ∀ o, wc1.frozen? ⟨w.heap.size, o, none⟩ = false := fun o => (hb.frozen (p := ⟨w.heap.size, o, none⟩) hl_A).trans (f_A o)
  replace HX_A := Lib.hid (HX_A.out.below hb)
  replace HB := Lib.hid (HB.out.trans (hb.mono hs0))
  replace hN : N ≤ wc1.heap.size := Nat.le_trans hN hb.size
  replace hs0 : w.heap.size ≤ wc1.heap.size := Nat.le_trans hs0 hb.size
  replace hl_A : w.heap.size < wc1.heap.size := Nat.lt_of_lt_of_le hl_A hb.size
  replace HA := Lib.hid (HA.out.below hb)
  replace HAA := Lib.hid (HAA.out.below hb)
  replace HT := Lib.hid (HT.out.below hb)
  clear hb
  go_wp2_with fail
  refine calls_name fun Z1 hW => ?_
  have HL_Z1 := Lib.hid (show Below wc1.heap.size wc1 Z1 by rw [← hW]; exact BlA)
  have hs_Z1 : wc1.heap.size ≤ Z1.heap.size := by rw [← hW]; (first | omega | (simp; done) | (simp; omega))
  replace k_A_0 : Z1.cell? ⟨w.heap.size, 0, none⟩ = some (.bool s2) := (HL_Z1.out.cell (p := ⟨w.heap.size, 0, none⟩) hl_A).trans k_A_0
  replace k_A_1 : Z1.cell? ⟨w.heap.size, 1, none⟩ = some (.slice a2 na2 ca2) := (HL_Z1.out.cell (p := ⟨w.heap.size, 1, none⟩) hl_A).trans k_A_1
  replace k_A_2 : Z1.cell? ⟨w.heap.size, 2, none⟩ = some (.slice d2 nd2 cd2) := (HL_Z1.out.cell (p := ⟨w.heap.size, 2, none⟩) hl_A).trans k_A_2
  replace f_A : ∀ o, Z1.frozen? ⟨w.heap.size, o, none⟩ = false := fun o => (HL_Z1.out.frozen (p := ⟨w.heap.size, o, none⟩) hl_A).trans (f_A o)
  replace HX_A := Lib.hid (show Bn Z1 (w.heap.size) by rw [← hW]; exact KpA)
  replace HB := Lib.hid (show Below w.heap.size w Z1 by rw [← hW]; exact BlA)
  replace hN : N ≤ Z1.heap.size := by rw [← hW]; (first | omega | (simp; done) | (simp; omega))
  replace hs0 : w.heap.size ≤ Z1.heap.size := by rw [← hW]; (first | omega | (simp; done) | (simp; omega))
  replace hl_A : w.heap.size < Z1.heap.size := by rw [← hW]; (first | omega | (simp; done) | (simp; omega))
  replace HA := Lib.hid (HA.out.below HL_Z1.out)
  replace HAA := Lib.hid (HAA.out.below HL_Z1.out)
  replace HT := Lib.hid (HT.out.below HL_Z1.out)
  clear HL_Z1
  clear hW
  refine (dawake_any (N := N) _ hN HT.out).mono ?_
  rintro e wz ⟨rfl, hb⟩
  have hs_wz : Z1.heap.size ≤ wz.heap.size := hb.size
  replace k_A_0 : wz.cell? ⟨w.heap.size, 0, none⟩ = some (.bool s2) := (hb.cell (p := ⟨w.heap.size, 0, none⟩) hl_A).trans k_A_0
  replace k_A_1 : wz.cell? ⟨w.heap.size, 1, none⟩ = some (.slice a2 na2 ca2) := (hb.cell (p := ⟨w.heap.size, 1, none⟩) hl_A).trans k_A_1
  replace k_A_2 : wz.cell? ⟨w.heap.size, 2, none⟩ = some (.slice d2 nd2 cd2) := (hb.cell (p := ⟨w.heap.size, 2, none⟩) hl_A).trans k_A_2
  replace f_A : ∀ o, wz.frozen? ⟨w.heap.size, o, none⟩ = false := fun o => (hb.frozen (p := ⟨w.heap.size, o, none⟩) hl_A).trans (f_A o)
  replace HX_A := Lib.hid (HX_A.out.below hb)
  replace HB := Lib.hid (HB.out.trans (hb.mono hs0))
  replace hN : N ≤ wz.heap.size := Nat.le_trans hN hb.size
  replace hs0 : w.heap.size ≤ wz.heap.size := Nat.le_trans hs0 hb.size
  replace hl_A : w.heap.size < wz.heap.size := Nat.lt_of_lt_of_le hl_A hb.size
  replace HA := Lib.hid (HA.out.below hb)
  replace HAA := Lib.hid (HAA.out.below hb)
  replace HT := Lib.hid (HT.out.below hb)
  clear hb
  go_wp2_with fail
  go_ret
  exact ⟨rfl, HB.out⟩
end Go.Proofs.YtnillajhhimeiaaGreatDoor
