/- ExactMoments returns true for every input whose numbers have at most 2^21 limbs (the walk). -/
import Derived.Test.YtbjgnpgachdlaaaGreatDoorRfB
import Derived.Test.YtbjgnpgachdlaaaGreatDoorExU
namespace Go.Proofs.YtbjgnpgachdlaaaGreatDoor
open Go.RowKit

set_option maxHeartbeats 4000000 in
theorem mom_no {N : Nat} (a : Option Addr) (n cap : Nat) (q : Nat → Rat) (L : Nat) (w : World) (hN : N ≤ w.heap.size) (h : Rs N w a n cap q L) (hL : L ≤ 2097152) (htab : TabW w) (hv : valid q n = false) : Calls Tryz.prog 3 #[.slice a n cap] w fun e w' => e = .returned (.bool true) ∧ Below w.heap.size w w' := by
  have hN0 := hN
  have HA := Lib.hid h
  have HT := Lib.hid htab
  have HV := Lib.hid hv
  have bc1 := h.1
  have bc2 := h.2.1
  unfold maxLen at bc2
  clear h hv htab
  have HB := Lib.hid (Below.refl w.heap.size w)
  go_enter Tryz.func3, Tryz.ntmps3
  go_wp2_with fail
  refine calls_name fun W0 hW => ?_
  have hs_W0 : w.heap.size ≤ W0.heap.size := by rw [← hW]; exact OmA
  replace HB := Lib.hid (show Below w.heap.size w W0 by rw [← hW]; exact BlA)
  replace hN : N ≤ W0.heap.size := by rw [← hW]; exact OmA
  have hs0 : w.heap.size ≤ W0.heap.size := by rw [← hW]; exact OmA
  clear hW
  refine (Mean_no (N := N) _ _ _ q L _ hN (HA.out.below HB.out) hL HV.out).mono ?_
  rintro e wa ⟨rfl, hb⟩
  have hs_wa : W0.heap.size ≤ wa.heap.size := hb.size
  replace HB := Lib.hid (HB.out.trans (hb.mono hs0))
  replace hN : N ≤ wa.heap.size := Nat.le_trans hN hb.size
  replace hs0 : w.heap.size ≤ wa.heap.size := Nat.le_trans hs0 hb.size
  clear hb
  go_wp2_with fail
  refine calls_name fun W1 hW => ?_
  have hs_W1 : wa.heap.size ≤ W1.heap.size := by rw [← hW]; exact OmA
  have k_A_0 : W1.cell? ⟨wa.heap.size, 0, none⟩ = some (.bool false) := by rw [← hW]; (first | (go_simp; done) | (simp; done) | (simp [go_sem]; done) | (simp [go_sem]; done))
  have k_A_1 : W1.cell? ⟨wa.heap.size, 1, none⟩ = some (.slice none 0 0) := by rw [← hW]; (first | (go_simp; done) | (simp; done) | (simp [go_sem]; done) | (simp [go_sem]; done))
  have k_A_2 : W1.cell? ⟨wa.heap.size, 2, none⟩ = some (.slice none 0 0) := by rw [← hW]; (first | (go_simp; done) | (simp; done) | (simp [go_sem]; done) | (simp [go_sem]; done))
  have f_A : ∀ o, W1.frozen? ⟨wa.heap.size, o, none⟩ = false := by intro o; rw [← hW]; (first | (go_simp; done) | (simp; done) | (simp [go_sem]; done) | (simp [go_sem]; done))
  have HX_A := Lib.hid (show Bn W1 (wa.heap.size) by rw [← hW]; exact KpA)
  replace HB := Lib.hid (show Below w.heap.size w W1 by rw [← hW]; exact BlA)
  replace hN : N ≤ W1.heap.size := by rw [← hW]; exact OmA
  replace hs0 : w.heap.size ≤ W1.heap.size := by rw [← hW]; exact OmA
  have hl_A : wa.heap.size < W1.heap.size := by rw [← hW]; exact OmA
  clear hW
  refine (xMean_no (N := N) _ _ _ q L _ hN (HA.out.below HB.out) hL HV.out).mono ?_
  rintro e wb ⟨rfl, hb⟩
  have hs_wb : W1.heap.size ≤ wb.heap.size := hb.size
  replace k_A_0 : wb.cell? ⟨wa.heap.size, 0, none⟩ = some (.bool false) := (hb.cell (p := ⟨wa.heap.size, 0, none⟩) hl_A).trans k_A_0
  replace k_A_1 : wb.cell? ⟨wa.heap.size, 1, none⟩ = some (.slice none 0 0) := (hb.cell (p := ⟨wa.heap.size, 1, none⟩) hl_A).trans k_A_1
  replace k_A_2 : wb.cell? ⟨wa.heap.size, 2, none⟩ = some (.slice none 0 0) := (hb.cell (p := ⟨wa.heap.size, 2, none⟩) hl_A).trans k_A_2
  replace f_A : ∀ o, wb.frozen? ⟨wa.heap.size, o, none⟩ = false := fun o => (hb.frozen (p := ⟨wa.heap.size, o, none⟩) hl_A).trans (f_A o)
  replace HX_A := Lib.hid (HX_A.out.below hb)
  replace HB := Lib.hid (HB.out.trans (hb.mono hs0))
  replace hN : N ≤ wb.heap.size := Nat.le_trans hN hb.size
  replace hs0 : w.heap.size ≤ wb.heap.size := Nat.le_trans hs0 hb.size
  replace hl_A : wa.heap.size < wb.heap.size := Nat.lt_of_lt_of_le hl_A hb.size
  clear hb
  go_wp2_with fail
  refine calls_name fun W2 hW => ?_
  have HL_W2 := Lib.hid (show Below wb.heap.size wb W2 by rw [← hW]; exact BlA)
  have hs_W2 : wb.heap.size ≤ W2.heap.size := by rw [← hW]; exact OmA
  have hd_A_C : wa.heap.size < wb.heap.size := by omega
  replace k_A_0 : W2.cell? ⟨wa.heap.size, 0, none⟩ = some (.bool false) := (HL_W2.out.cell (p := ⟨wa.heap.size, 0, none⟩) hl_A).trans k_A_0
  replace k_A_1 : W2.cell? ⟨wa.heap.size, 1, none⟩ = some (.slice none 0 0) := (HL_W2.out.cell (p := ⟨wa.heap.size, 1, none⟩) hl_A).trans k_A_1
  replace k_A_2 : W2.cell? ⟨wa.heap.size, 2, none⟩ = some (.slice none 0 0) := (HL_W2.out.cell (p := ⟨wa.heap.size, 2, none⟩) hl_A).trans k_A_2
  replace f_A : ∀ o, W2.frozen? ⟨wa.heap.size, o, none⟩ = false := fun o => (HL_W2.out.frozen (p := ⟨wa.heap.size, o, none⟩) hl_A).trans (f_A o)
  replace HX_A := Lib.hid (show Bn W2 (wa.heap.size) by rw [← hW]; exact KpA)
  have k_C_0 : W2.cell? ⟨wb.heap.size, 0, none⟩ = some (.bool false) := by rw [← hW]; (first | (go_simp; done) | (simp; done) | (simp [go_sem]; done))
  have k_C_1 : W2.cell? ⟨wb.heap.size, 1, none⟩ = some (.slice none 0 0) := by rw [← hW]; (first | (go_simp; done) | (simp; done) | (simp [go_sem]; done))
  have k_C_2 : W2.cell? ⟨wb.heap.size, 2, none⟩ = some (.slice none 0 0) := by rw [← hW]; (first | (go_simp; done) | (simp; done) | (simp [go_sem]; done))
  have f_C : ∀ o, W2.frozen? ⟨wb.heap.size, o, none⟩ = false := by intro o; rw [← hW]; (first | (go_simp; done) | (simp; done) | (simp [go_sem]; done))
  have HX_C := Lib.hid (show Bn W2 (wb.heap.size) by rw [← hW]; exact KpA)
  replace HB := Lib.hid (show Below w.heap.size w W2 by rw [← hW]; exact BlA)
  replace hN : N ≤ W2.heap.size := by rw [← hW]; exact OmA
  replace hs0 : w.heap.size ≤ W2.heap.size := by rw [← hW]; exact OmA
  replace hl_A : wa.heap.size < W2.heap.size := by rw [← hW]; exact OmA
  have hl_C : wb.heap.size < W2.heap.size := by rw [← hW]; exact OmA
  clear HL_W2
  clear hW
  refine (Valid_any (N := N) _ _ _ q L _ hN (HA.out.below HB.out) hL false HV.out).mono ?_
  rintro e wc ⟨rfl, hb⟩
  have hs_wc : W2.heap.size ≤ wc.heap.size := hb.size
  replace k_A_0 : wc.cell? ⟨wa.heap.size, 0, none⟩ = some (.bool false) := (hb.cell (p := ⟨wa.heap.size, 0, none⟩) hl_A).trans k_A_0
  replace k_A_1 : wc.cell? ⟨wa.heap.size, 1, none⟩ = some (.slice none 0 0) := (hb.cell (p := ⟨wa.heap.size, 1, none⟩) hl_A).trans k_A_1
  replace k_A_2 : wc.cell? ⟨wa.heap.size, 2, none⟩ = some (.slice none 0 0) := (hb.cell (p := ⟨wa.heap.size, 2, none⟩) hl_A).trans k_A_2
  replace f_A : ∀ o, wc.frozen? ⟨wa.heap.size, o, none⟩ = false := fun o => (hb.frozen (p := ⟨wa.heap.size, o, none⟩) hl_A).trans (f_A o)
  replace HX_A := Lib.hid (HX_A.out.below hb)
  replace k_C_0 : wc.cell? ⟨wb.heap.size, 0, none⟩ = some (.bool false) := (hb.cell (p := ⟨wb.heap.size, 0, none⟩) hl_C).trans k_C_0
  replace k_C_1 : wc.cell? ⟨wb.heap.size, 1, none⟩ = some (.slice none 0 0) := (hb.cell (p := ⟨wb.heap.size, 1, none⟩) hl_C).trans k_C_1
  replace k_C_2 : wc.cell? ⟨wb.heap.size, 2, none⟩ = some (.slice none 0 0) := (hb.cell (p := ⟨wb.heap.size, 2, none⟩) hl_C).trans k_C_2
  replace f_C : ∀ o, wc.frozen? ⟨wb.heap.size, o, none⟩ = false := fun o => (hb.frozen (p := ⟨wb.heap.size, o, none⟩) hl_C).trans (f_C o)
  replace HX_C := Lib.hid (HX_C.out.below hb)
  replace HB := Lib.hid (HB.out.trans (hb.mono hs0))
  replace hN : N ≤ wc.heap.size := Nat.le_trans hN hb.size
  replace hs0 : w.heap.size ≤ wc.heap.size := Nat.le_trans hs0 hb.size
  replace hl_A : wa.heap.size < wc.heap.size := Nat.lt_of_lt_of_le hl_A hb.size
  replace hl_C : wb.heap.size < wc.heap.size := Nat.lt_of_lt_of_le hl_C hb.size
  clear hb
  go_wp2_with fail
  refine calls_name fun W3 hW => ?_
  have HL_W3 := Lib.hid (show Below wc.heap.size wc W3 by rw [← hW]; exact BlA)
  have hs_W3 : wc.heap.size ≤ W3.heap.size := by rw [← hW]; exact OmA
  replace k_A_0 : W3.cell? ⟨wa.heap.size, 0, none⟩ = some (.bool false) := (HL_W3.out.cell (p := ⟨wa.heap.size, 0, none⟩) hl_A).trans k_A_0
  replace k_A_1 : W3.cell? ⟨wa.heap.size, 1, none⟩ = some (.slice none 0 0) := (HL_W3.out.cell (p := ⟨wa.heap.size, 1, none⟩) hl_A).trans k_A_1
  replace k_A_2 : W3.cell? ⟨wa.heap.size, 2, none⟩ = some (.slice none 0 0) := (HL_W3.out.cell (p := ⟨wa.heap.size, 2, none⟩) hl_A).trans k_A_2
  replace f_A : ∀ o, W3.frozen? ⟨wa.heap.size, o, none⟩ = false := fun o => (HL_W3.out.frozen (p := ⟨wa.heap.size, o, none⟩) hl_A).trans (f_A o)
  replace HX_A := Lib.hid (show Bn W3 (wa.heap.size) by rw [← hW]; exact KpA)
  replace k_C_0 : W3.cell? ⟨wb.heap.size, 0, none⟩ = some (.bool false) := (HL_W3.out.cell (p := ⟨wb.heap.size, 0, none⟩) hl_C).trans k_C_0
  replace k_C_1 : W3.cell? ⟨wb.heap.size, 1, none⟩ = some (.slice none 0 0) := (HL_W3.out.cell (p := ⟨wb.heap.size, 1, none⟩) hl_C).trans k_C_1
  replace k_C_2 : W3.cell? ⟨wb.heap.size, 2, none⟩ = some (.slice none 0 0) := (HL_W3.out.cell (p := ⟨wb.heap.size, 2, none⟩) hl_C).trans k_C_2
  replace f_C : ∀ o, W3.frozen? ⟨wb.heap.size, o, none⟩ = false := fun o => (HL_W3.out.frozen (p := ⟨wb.heap.size, o, none⟩) hl_C).trans (f_C o)
  replace HX_C := Lib.hid (show Bn W3 (wb.heap.size) by rw [← hW]; exact KpA)
  replace HB := Lib.hid (show Below w.heap.size w W3 by rw [← hW]; exact BlA)
  replace hN : N ≤ W3.heap.size := by rw [← hW]; exact OmA
  replace hs0 : w.heap.size ≤ W3.heap.size := by rw [← hW]; exact OmA
  replace hl_A : wa.heap.size < W3.heap.size := by rw [← hW]; exact OmA
  replace hl_C : wb.heap.size < W3.heap.size := by rw [← hW]; exact OmA
  clear HL_W3
  clear hW
  refine (xvalid_any (N := N) _ _ _ q L _ hN (HA.out.below HB.out) hL false HV.out).mono ?_
  rintro e wd ⟨rfl, hb⟩
  have hs_wd : W3.heap.size ≤ wd.heap.size := hb.size
  replace k_A_0 : wd.cell? ⟨wa.heap.size, 0, none⟩ = some (.bool false) := (hb.cell (p := ⟨wa.heap.size, 0, none⟩) hl_A).trans k_A_0
  replace k_A_1 : wd.cell? ⟨wa.heap.size, 1, none⟩ = some (.slice none 0 0) := (hb.cell (p := ⟨wa.heap.size, 1, none⟩) hl_A).trans k_A_1
  replace k_A_2 : wd.cell? ⟨wa.heap.size, 2, none⟩ = some (.slice none 0 0) := (hb.cell (p := ⟨wa.heap.size, 2, none⟩) hl_A).trans k_A_2
  replace f_A : ∀ o, wd.frozen? ⟨wa.heap.size, o, none⟩ = false := fun o => (hb.frozen (p := ⟨wa.heap.size, o, none⟩) hl_A).trans (f_A o)
  replace HX_A := Lib.hid (HX_A.out.below hb)
  replace k_C_0 : wd.cell? ⟨wb.heap.size, 0, none⟩ = some (.bool false) := (hb.cell (p := ⟨wb.heap.size, 0, none⟩) hl_C).trans k_C_0
  replace k_C_1 : wd.cell? ⟨wb.heap.size, 1, none⟩ = some (.slice none 0 0) := (hb.cell (p := ⟨wb.heap.size, 1, none⟩) hl_C).trans k_C_1
  replace k_C_2 : wd.cell? ⟨wb.heap.size, 2, none⟩ = some (.slice none 0 0) := (hb.cell (p := ⟨wb.heap.size, 2, none⟩) hl_C).trans k_C_2
  replace f_C : ∀ o, wd.frozen? ⟨wb.heap.size, o, none⟩ = false := fun o => (hb.frozen (p := ⟨wb.heap.size, o, none⟩) hl_C).trans (f_C o)
  replace HX_C := Lib.hid (HX_C.out.below hb)
  replace HB := Lib.hid (HB.out.trans (hb.mono hs0))
  replace hN : N ≤ wd.heap.size := Nat.le_trans hN hb.size
  replace hs0 : w.heap.size ≤ wd.heap.size := Nat.le_trans hs0 hb.size
  replace hl_A : wa.heap.size < wd.heap.size := Nat.lt_of_lt_of_le hl_A hb.size
  replace hl_C : wb.heap.size < wd.heap.size := Nat.lt_of_lt_of_le hl_C hb.size
  clear hb
  go_wp2_with fail
  refine calls_name fun W4 hW => ?_
  have HL_W4 := Lib.hid (show Below wd.heap.size wd W4 by rw [← hW]; exact BlA)
  have hs_W4 : wd.heap.size ≤ W4.heap.size := by rw [← hW]; exact OmA
  replace k_A_0 : W4.cell? ⟨wa.heap.size, 0, none⟩ = some (.bool false) := (HL_W4.out.cell (p := ⟨wa.heap.size, 0, none⟩) hl_A).trans k_A_0
  replace k_A_1 : W4.cell? ⟨wa.heap.size, 1, none⟩ = some (.slice none 0 0) := (HL_W4.out.cell (p := ⟨wa.heap.size, 1, none⟩) hl_A).trans k_A_1
  replace k_A_2 : W4.cell? ⟨wa.heap.size, 2, none⟩ = some (.slice none 0 0) := (HL_W4.out.cell (p := ⟨wa.heap.size, 2, none⟩) hl_A).trans k_A_2
  replace f_A : ∀ o, W4.frozen? ⟨wa.heap.size, o, none⟩ = false := fun o => (HL_W4.out.frozen (p := ⟨wa.heap.size, o, none⟩) hl_A).trans (f_A o)
  replace HX_A := Lib.hid (show Bn W4 (wa.heap.size) by rw [← hW]; exact KpA)
  replace k_C_0 : W4.cell? ⟨wb.heap.size, 0, none⟩ = some (.bool false) := (HL_W4.out.cell (p := ⟨wb.heap.size, 0, none⟩) hl_C).trans k_C_0
  replace k_C_1 : W4.cell? ⟨wb.heap.size, 1, none⟩ = some (.slice none 0 0) := (HL_W4.out.cell (p := ⟨wb.heap.size, 1, none⟩) hl_C).trans k_C_1
  replace k_C_2 : W4.cell? ⟨wb.heap.size, 2, none⟩ = some (.slice none 0 0) := (HL_W4.out.cell (p := ⟨wb.heap.size, 2, none⟩) hl_C).trans k_C_2
  replace f_C : ∀ o, W4.frozen? ⟨wb.heap.size, o, none⟩ = false := fun o => (HL_W4.out.frozen (p := ⟨wb.heap.size, o, none⟩) hl_C).trans (f_C o)
  replace HX_C := Lib.hid (show Bn W4 (wb.heap.size) by rw [← hW]; exact KpA)
  replace HB := Lib.hid (show Below w.heap.size w W4 by rw [← hW]; exact BlA)
  replace hN : N ≤ W4.heap.size := by rw [← hW]; exact OmA
  replace hs0 : w.heap.size ≤ W4.heap.size := by rw [← hW]; exact OmA
  replace hl_A : wa.heap.size < W4.heap.size := by rw [← hW]; exact OmA
  replace hl_C : wb.heap.size < W4.heap.size := by rw [← hW]; exact OmA
  clear HL_W4
  clear hW
  refine (SameRatio_any (N := N) _ _ _ _ _ _ _ _ 0 _ _ _ 0 _ hN (Nt.zero _ _) (Nt.zero _ _) (Nt.zero _ _) (Nt.zero _ _)).mono ?_
  rintro e we ⟨rfl, hb⟩
  have hs_we : W4.heap.size ≤ we.heap.size := hb.size
  replace k_A_0 : we.cell? ⟨wa.heap.size, 0, none⟩ = some (.bool false) := (hb.cell (p := ⟨wa.heap.size, 0, none⟩) hl_A).trans k_A_0
  replace k_A_1 : we.cell? ⟨wa.heap.size, 1, none⟩ = some (.slice none 0 0) := (hb.cell (p := ⟨wa.heap.size, 1, none⟩) hl_A).trans k_A_1
  replace k_A_2 : we.cell? ⟨wa.heap.size, 2, none⟩ = some (.slice none 0 0) := (hb.cell (p := ⟨wa.heap.size, 2, none⟩) hl_A).trans k_A_2
  replace f_A : ∀ o, we.frozen? ⟨wa.heap.size, o, none⟩ = false := fun o => (hb.frozen (p := ⟨wa.heap.size, o, none⟩) hl_A).trans (f_A o)
  replace HX_A := Lib.hid (HX_A.out.below hb)
  replace k_C_0 : we.cell? ⟨wb.heap.size, 0, none⟩ = some (.bool false) := (hb.cell (p := ⟨wb.heap.size, 0, none⟩) hl_C).trans k_C_0
  replace k_C_1 : we.cell? ⟨wb.heap.size, 1, none⟩ = some (.slice none 0 0) := (hb.cell (p := ⟨wb.heap.size, 1, none⟩) hl_C).trans k_C_1
  replace k_C_2 : we.cell? ⟨wb.heap.size, 2, none⟩ = some (.slice none 0 0) := (hb.cell (p := ⟨wb.heap.size, 2, none⟩) hl_C).trans k_C_2
  replace f_C : ∀ o, we.frozen? ⟨wb.heap.size, o, none⟩ = false := fun o => (hb.frozen (p := ⟨wb.heap.size, o, none⟩) hl_C).trans (f_C o)
  replace HX_C := Lib.hid (HX_C.out.below hb)
  replace HB := Lib.hid (HB.out.trans (hb.mono hs0))
  replace hN : N ≤ we.heap.size := Nat.le_trans hN hb.size
  replace hs0 : w.heap.size ≤ we.heap.size := Nat.le_trans hs0 hb.size
  replace hl_A : wa.heap.size < we.heap.size := Nat.lt_of_lt_of_le hl_A hb.size
  replace hl_C : wb.heap.size < we.heap.size := Nat.lt_of_lt_of_le hl_C hb.size
  clear hb
  go_wp2_with fail
  refine calls_name fun W5 hW => ?_
  have HL_W5 := Lib.hid (show Below we.heap.size we W5 by rw [← hW]; exact BlA)
  have hs_W5 : we.heap.size ≤ W5.heap.size := by rw [← hW]; exact OmA
  replace k_A_0 : W5.cell? ⟨wa.heap.size, 0, none⟩ = some (.bool false) := (HL_W5.out.cell (p := ⟨wa.heap.size, 0, none⟩) hl_A).trans k_A_0
  replace k_A_1 : W5.cell? ⟨wa.heap.size, 1, none⟩ = some (.slice none 0 0) := (HL_W5.out.cell (p := ⟨wa.heap.size, 1, none⟩) hl_A).trans k_A_1
  replace k_A_2 : W5.cell? ⟨wa.heap.size, 2, none⟩ = some (.slice none 0 0) := (HL_W5.out.cell (p := ⟨wa.heap.size, 2, none⟩) hl_A).trans k_A_2
  replace f_A : ∀ o, W5.frozen? ⟨wa.heap.size, o, none⟩ = false := fun o => (HL_W5.out.frozen (p := ⟨wa.heap.size, o, none⟩) hl_A).trans (f_A o)
  replace HX_A := Lib.hid (show Bn W5 (wa.heap.size) by rw [← hW]; exact KpA)
  replace k_C_0 : W5.cell? ⟨wb.heap.size, 0, none⟩ = some (.bool false) := (HL_W5.out.cell (p := ⟨wb.heap.size, 0, none⟩) hl_C).trans k_C_0
  replace k_C_1 : W5.cell? ⟨wb.heap.size, 1, none⟩ = some (.slice none 0 0) := (HL_W5.out.cell (p := ⟨wb.heap.size, 1, none⟩) hl_C).trans k_C_1
  replace k_C_2 : W5.cell? ⟨wb.heap.size, 2, none⟩ = some (.slice none 0 0) := (HL_W5.out.cell (p := ⟨wb.heap.size, 2, none⟩) hl_C).trans k_C_2
  replace f_C : ∀ o, W5.frozen? ⟨wb.heap.size, o, none⟩ = false := fun o => (HL_W5.out.frozen (p := ⟨wb.heap.size, o, none⟩) hl_C).trans (f_C o)
  replace HX_C := Lib.hid (show Bn W5 (wb.heap.size) by rw [← hW]; exact KpA)
  replace HB := Lib.hid (show Below w.heap.size w W5 by rw [← hW]; exact BlA)
  replace hN : N ≤ W5.heap.size := by rw [← hW]; exact OmA
  replace hs0 : w.heap.size ≤ W5.heap.size := by rw [← hW]; exact OmA
  replace hl_A : wa.heap.size < W5.heap.size := by rw [← hW]; exact OmA
  replace hl_C : wb.heap.size < W5.heap.size := by rw [← hW]; exact OmA
  clear HL_W5
  clear hW
  refine (Variance_no (N := N) _ _ _ q L _ hN (HA.out.below HB.out) hL HV.out).mono ?_
  rintro e wf ⟨rfl, hb⟩
  have hs_wf : W5.heap.size ≤ wf.heap.size := hb.size
  replace k_A_0 : wf.cell? ⟨wa.heap.size, 0, none⟩ = some (.bool false) := (hb.cell (p := ⟨wa.heap.size, 0, none⟩) hl_A).trans k_A_0
  replace k_A_1 : wf.cell? ⟨wa.heap.size, 1, none⟩ = some (.slice none 0 0) := (hb.cell (p := ⟨wa.heap.size, 1, none⟩) hl_A).trans k_A_1
  replace k_A_2 : wf.cell? ⟨wa.heap.size, 2, none⟩ = some (.slice none 0 0) := (hb.cell (p := ⟨wa.heap.size, 2, none⟩) hl_A).trans k_A_2
  replace f_A : ∀ o, wf.frozen? ⟨wa.heap.size, o, none⟩ = false := fun o => (hb.frozen (p := ⟨wa.heap.size, o, none⟩) hl_A).trans (f_A o)
  replace HX_A := Lib.hid (HX_A.out.below hb)
  replace k_C_0 : wf.cell? ⟨wb.heap.size, 0, none⟩ = some (.bool false) := (hb.cell (p := ⟨wb.heap.size, 0, none⟩) hl_C).trans k_C_0
  replace k_C_1 : wf.cell? ⟨wb.heap.size, 1, none⟩ = some (.slice none 0 0) := (hb.cell (p := ⟨wb.heap.size, 1, none⟩) hl_C).trans k_C_1
  replace k_C_2 : wf.cell? ⟨wb.heap.size, 2, none⟩ = some (.slice none 0 0) := (hb.cell (p := ⟨wb.heap.size, 2, none⟩) hl_C).trans k_C_2
  replace f_C : ∀ o, wf.frozen? ⟨wb.heap.size, o, none⟩ = false := fun o => (hb.frozen (p := ⟨wb.heap.size, o, none⟩) hl_C).trans (f_C o)
  replace HX_C := Lib.hid (HX_C.out.below hb)
  replace HB := Lib.hid (HB.out.trans (hb.mono hs0))
  replace hN : N ≤ wf.heap.size := Nat.le_trans hN hb.size
  replace hs0 : w.heap.size ≤ wf.heap.size := Nat.le_trans hs0 hb.size
  replace hl_A : wa.heap.size < wf.heap.size := Nat.lt_of_lt_of_le hl_A hb.size
  replace hl_C : wb.heap.size < wf.heap.size := Nat.lt_of_lt_of_le hl_C hb.size
  clear hb
  go_wp2_with fail
  refine calls_name fun W6 hW => ?_
  have HL_W6 := Lib.hid (show Below wf.heap.size wf W6 by rw [← hW]; exact BlA)
  have hs_W6 : wf.heap.size ≤ W6.heap.size := by rw [← hW]; exact OmA
  have hd_A_D : wa.heap.size < wf.heap.size := by omega
  have hd_C_D : wb.heap.size < wf.heap.size := by omega
  replace k_A_0 : W6.cell? ⟨wa.heap.size, 0, none⟩ = some (.bool false) := (HL_W6.out.cell (p := ⟨wa.heap.size, 0, none⟩) hl_A).trans k_A_0
  replace k_A_1 : W6.cell? ⟨wa.heap.size, 1, none⟩ = some (.slice none 0 0) := (HL_W6.out.cell (p := ⟨wa.heap.size, 1, none⟩) hl_A).trans k_A_1
  replace k_A_2 : W6.cell? ⟨wa.heap.size, 2, none⟩ = some (.slice none 0 0) := (HL_W6.out.cell (p := ⟨wa.heap.size, 2, none⟩) hl_A).trans k_A_2
  replace f_A : ∀ o, W6.frozen? ⟨wa.heap.size, o, none⟩ = false := fun o => (HL_W6.out.frozen (p := ⟨wa.heap.size, o, none⟩) hl_A).trans (f_A o)
  replace HX_A := Lib.hid (show Bn W6 (wa.heap.size) by rw [← hW]; exact KpA)
  replace k_C_0 : W6.cell? ⟨wb.heap.size, 0, none⟩ = some (.bool false) := (HL_W6.out.cell (p := ⟨wb.heap.size, 0, none⟩) hl_C).trans k_C_0
  replace k_C_1 : W6.cell? ⟨wb.heap.size, 1, none⟩ = some (.slice none 0 0) := (HL_W6.out.cell (p := ⟨wb.heap.size, 1, none⟩) hl_C).trans k_C_1
  replace k_C_2 : W6.cell? ⟨wb.heap.size, 2, none⟩ = some (.slice none 0 0) := (HL_W6.out.cell (p := ⟨wb.heap.size, 2, none⟩) hl_C).trans k_C_2
  replace f_C : ∀ o, W6.frozen? ⟨wb.heap.size, o, none⟩ = false := fun o => (HL_W6.out.frozen (p := ⟨wb.heap.size, o, none⟩) hl_C).trans (f_C o)
  replace HX_C := Lib.hid (show Bn W6 (wb.heap.size) by rw [← hW]; exact KpA)
  have k_D_0 : W6.cell? ⟨wf.heap.size, 0, none⟩ = some (.bool false) := by rw [← hW]; (first | (go_simp; done) | (simp; done) | (simp [go_sem]; done))
  have k_D_1 : W6.cell? ⟨wf.heap.size, 1, none⟩ = some (.slice none 0 0) := by rw [← hW]; (first | (go_simp; done) | (simp; done) | (simp [go_sem]; done))
  have k_D_2 : W6.cell? ⟨wf.heap.size, 2, none⟩ = some (.slice none 0 0) := by rw [← hW]; (first | (go_simp; done) | (simp; done) | (simp [go_sem]; done))
  have f_D : ∀ o, W6.frozen? ⟨wf.heap.size, o, none⟩ = false := by intro o; rw [← hW]; (first | (go_simp; done) | (simp; done) | (simp [go_sem]; done))
  have HX_D := Lib.hid (show Bn W6 (wf.heap.size) by rw [← hW]; exact KpA)
  replace HB := Lib.hid (show Below w.heap.size w W6 by rw [← hW]; exact BlA)
  replace hN : N ≤ W6.heap.size := by rw [← hW]; exact OmA
  replace hs0 : w.heap.size ≤ W6.heap.size := by rw [← hW]; exact OmA
  replace hl_A : wa.heap.size < W6.heap.size := by rw [← hW]; exact OmA
  replace hl_C : wb.heap.size < W6.heap.size := by rw [← hW]; exact OmA
  have hl_D : wf.heap.size < W6.heap.size := by rw [← hW]; exact OmA
  clear HL_W6
  clear hW
  refine (xVariance_no (N := N) _ _ _ q L _ hN (HA.out.below HB.out) hL HV.out).mono ?_
  rintro e wg ⟨rfl, hb⟩
  have hs_wg : W6.heap.size ≤ wg.heap.size := hb.size
  replace k_A_0 : wg.cell? ⟨wa.heap.size, 0, none⟩ = some (.bool false) := (hb.cell (p := ⟨wa.heap.size, 0, none⟩) hl_A).trans k_A_0
  replace k_A_1 : wg.cell? ⟨wa.heap.size, 1, none⟩ = some (.slice none 0 0) := (hb.cell (p := ⟨wa.heap.size, 1, none⟩) hl_A).trans k_A_1
  replace k_A_2 : wg.cell? ⟨wa.heap.size, 2, none⟩ = some (.slice none 0 0) := (hb.cell (p := ⟨wa.heap.size, 2, none⟩) hl_A).trans k_A_2
  replace f_A : ∀ o, wg.frozen? ⟨wa.heap.size, o, none⟩ = false := fun o => (hb.frozen (p := ⟨wa.heap.size, o, none⟩) hl_A).trans (f_A o)
  replace HX_A := Lib.hid (HX_A.out.below hb)
  replace k_C_0 : wg.cell? ⟨wb.heap.size, 0, none⟩ = some (.bool false) := (hb.cell (p := ⟨wb.heap.size, 0, none⟩) hl_C).trans k_C_0
  replace k_C_1 : wg.cell? ⟨wb.heap.size, 1, none⟩ = some (.slice none 0 0) := (hb.cell (p := ⟨wb.heap.size, 1, none⟩) hl_C).trans k_C_1
  replace k_C_2 : wg.cell? ⟨wb.heap.size, 2, none⟩ = some (.slice none 0 0) := (hb.cell (p := ⟨wb.heap.size, 2, none⟩) hl_C).trans k_C_2
  replace f_C : ∀ o, wg.frozen? ⟨wb.heap.size, o, none⟩ = false := fun o => (hb.frozen (p := ⟨wb.heap.size, o, none⟩) hl_C).trans (f_C o)
  replace HX_C := Lib.hid (HX_C.out.below hb)
  replace k_D_0 : wg.cell? ⟨wf.heap.size, 0, none⟩ = some (.bool false) := (hb.cell (p := ⟨wf.heap.size, 0, none⟩) hl_D).trans k_D_0
  replace k_D_1 : wg.cell? ⟨wf.heap.size, 1, none⟩ = some (.slice none 0 0) := (hb.cell (p := ⟨wf.heap.size, 1, none⟩) hl_D).trans k_D_1
  replace k_D_2 : wg.cell? ⟨wf.heap.size, 2, none⟩ = some (.slice none 0 0) := (hb.cell (p := ⟨wf.heap.size, 2, none⟩) hl_D).trans k_D_2
  replace f_D : ∀ o, wg.frozen? ⟨wf.heap.size, o, none⟩ = false := fun o => (hb.frozen (p := ⟨wf.heap.size, o, none⟩) hl_D).trans (f_D o)
  replace HX_D := Lib.hid (HX_D.out.below hb)
  replace HB := Lib.hid (HB.out.trans (hb.mono hs0))
  replace hN : N ≤ wg.heap.size := Nat.le_trans hN hb.size
  replace hs0 : w.heap.size ≤ wg.heap.size := Nat.le_trans hs0 hb.size
  replace hl_A : wa.heap.size < wg.heap.size := Nat.lt_of_lt_of_le hl_A hb.size
  replace hl_C : wb.heap.size < wg.heap.size := Nat.lt_of_lt_of_le hl_C hb.size
  replace hl_D : wf.heap.size < wg.heap.size := Nat.lt_of_lt_of_le hl_D hb.size
  clear hb
  go_wp2_with fail
  refine calls_name fun W7 hW => ?_
  have hs_W7 : wg.heap.size ≤ W7.heap.size := by rw [← hW]; exact OmA
  replace k_A_0 : W7.cell? ⟨wa.heap.size, 0, none⟩ = some (.bool false) := by rw [← hW]; (first | with_reducible exact k_A_0 | (simp [go_sem, k_A_0]; done) | (simp [go_sem, k_A_0, hl_A]; done) | (go_simp; done))
  replace k_A_1 : W7.cell? ⟨wa.heap.size, 1, none⟩ = some (.slice none 0 0) := by rw [← hW]; (first | with_reducible exact k_A_1 | (simp [go_sem, k_A_1]; done) | (simp [go_sem, k_A_1, hl_A]; done) | (go_simp; done))
  replace k_A_2 : W7.cell? ⟨wa.heap.size, 2, none⟩ = some (.slice none 0 0) := by rw [← hW]; (first | with_reducible exact k_A_2 | (simp [go_sem, k_A_2]; done) | (simp [go_sem, k_A_2, hl_A]; done) | (go_simp; done))
  replace f_A : ∀ o, W7.frozen? ⟨wa.heap.size, o, none⟩ = false := by intro o; rw [← hW]; (first | with_reducible exact f_A o | (simp [go_sem, f_A]; done) | (simp [go_sem, f_A, hl_A]; done) | (go_simp; done))
  replace HX_A := Lib.hid (show Bn W7 (wa.heap.size) by rw [← hW]; exact KpA)
  replace k_C_0 : W7.cell? ⟨wb.heap.size, 0, none⟩ = some (.bool false) := by rw [← hW]; (first | (go_simp; done) | (simp [go_sem, k_C_0]; done) | (simp [go_sem, k_C_0, k_C_1, k_C_2]; done))
  replace k_C_1 : W7.cell? ⟨wb.heap.size, 1, none⟩ = some (.slice none 0 0) := by rw [← hW]; (first | (go_simp; done) | (simp [go_sem, k_C_1]; done) | (simp [go_sem, k_C_0, k_C_1, k_C_2]; done))
  replace k_C_2 : W7.cell? ⟨wb.heap.size, 2, none⟩ = some (.slice none 0 0) := by rw [← hW]; (first | (go_simp; done) | (simp [go_sem, k_C_2]; done) | (simp [go_sem, k_C_0, k_C_1, k_C_2]; done))
  replace f_C : ∀ o, W7.frozen? ⟨wb.heap.size, o, none⟩ = false := by intro o; rw [← hW]; (first | with_reducible exact f_C o | (simp [go_sem, f_C]; done) | (simp [go_sem, f_C, hl_C]; done) | (go_simp; done))
  replace HX_C := Lib.hid (show Bn W7 (wb.heap.size) by rw [← hW]; exact KpA)
  replace k_D_0 : W7.cell? ⟨wf.heap.size, 0, none⟩ = some (.bool false) := by rw [← hW]; (first | with_reducible exact k_D_0 | (simp [go_sem, k_D_0]; done) | (simp [go_sem, k_D_0, hl_D]; done) | (go_simp; done))
  replace k_D_1 : W7.cell? ⟨wf.heap.size, 1, none⟩ = some (.slice none 0 0) := by rw [← hW]; (first | with_reducible exact k_D_1 | (simp [go_sem, k_D_1]; done) | (simp [go_sem, k_D_1, hl_D]; done) | (go_simp; done))
  replace k_D_2 : W7.cell? ⟨wf.heap.size, 2, none⟩ = some (.slice none 0 0) := by rw [← hW]; (first | with_reducible exact k_D_2 | (simp [go_sem, k_D_2]; done) | (simp [go_sem, k_D_2, hl_D]; done) | (go_simp; done))
  replace f_D : ∀ o, W7.frozen? ⟨wf.heap.size, o, none⟩ = false := by intro o; rw [← hW]; (first | with_reducible exact f_D o | (simp [go_sem, f_D]; done) | (simp [go_sem, f_D, hl_D]; done) | (go_simp; done))
  replace HX_D := Lib.hid (show Bn W7 (wf.heap.size) by rw [← hW]; exact KpA)
  replace HB := Lib.hid (show Below w.heap.size w W7 by rw [← hW]; exact BlA)
  replace hN : N ≤ W7.heap.size := by rw [← hW]; exact OmA
  replace hs0 : w.heap.size ≤ W7.heap.size := by rw [← hW]; exact OmA
  replace hl_A : wa.heap.size < W7.heap.size := by rw [← hW]; exact OmA
  replace hl_C : wb.heap.size < W7.heap.size := by rw [← hW]; exact OmA
  replace hl_D : wf.heap.size < W7.heap.size := by rw [← hW]; exact OmA
  clear hW
  refine (SameRatio_any (N := N) _ _ _ _ _ _ _ _ 0 _ _ _ 0 _ hN (Nt.zero _ _) (Nt.zero _ _) (Nt.zero _ _) (Nt.zero _ _)).mono ?_
  rintro e wh ⟨rfl, hb⟩
  have hs_wh : W7.heap.size ≤ wh.heap.size := hb.size
  replace k_A_0 : wh.cell? ⟨wa.heap.size, 0, none⟩ = some (.bool false) := (hb.cell (p := ⟨wa.heap.size, 0, none⟩) hl_A).trans k_A_0
  replace k_A_1 : wh.cell? ⟨wa.heap.size, 1, none⟩ = some (.slice none 0 0) := (hb.cell (p := ⟨wa.heap.size, 1, none⟩) hl_A).trans k_A_1
  replace k_A_2 : wh.cell? ⟨wa.heap.size, 2, none⟩ = some (.slice none 0 0) := (hb.cell (p := ⟨wa.heap.size, 2, none⟩) hl_A).trans k_A_2
  replace f_A : ∀ o, wh.frozen? ⟨wa.heap.size, o, none⟩ = false := fun o => (hb.frozen (p := ⟨wa.heap.size, o, none⟩) hl_A).trans (f_A o)
  replace HX_A := Lib.hid (HX_A.out.below hb)
  replace k_C_0 : wh.cell? ⟨wb.heap.size, 0, none⟩ = some (.bool false) := (hb.cell (p := ⟨wb.heap.size, 0, none⟩) hl_C).trans k_C_0
  replace k_C_1 : wh.cell? ⟨wb.heap.size, 1, none⟩ = some (.slice none 0 0) := (hb.cell (p := ⟨wb.heap.size, 1, none⟩) hl_C).trans k_C_1
  replace k_C_2 : wh.cell? ⟨wb.heap.size, 2, none⟩ = some (.slice none 0 0) := (hb.cell (p := ⟨wb.heap.size, 2, none⟩) hl_C).trans k_C_2
  replace f_C : ∀ o, wh.frozen? ⟨wb.heap.size, o, none⟩ = false := fun o => (hb.frozen (p := ⟨wb.heap.size, o, none⟩) hl_C).trans (f_C o)
  replace HX_C := Lib.hid (HX_C.out.below hb)
  replace k_D_0 : wh.cell? ⟨wf.heap.size, 0, none⟩ = some (.bool false) := (hb.cell (p := ⟨wf.heap.size, 0, none⟩) hl_D).trans k_D_0
  replace k_D_1 : wh.cell? ⟨wf.heap.size, 1, none⟩ = some (.slice none 0 0) := (hb.cell (p := ⟨wf.heap.size, 1, none⟩) hl_D).trans k_D_1
  replace k_D_2 : wh.cell? ⟨wf.heap.size, 2, none⟩ = some (.slice none 0 0) := (hb.cell (p := ⟨wf.heap.size, 2, none⟩) hl_D).trans k_D_2
  replace f_D : ∀ o, wh.frozen? ⟨wf.heap.size, o, none⟩ = false := fun o => (hb.frozen (p := ⟨wf.heap.size, o, none⟩) hl_D).trans (f_D o)
  replace HX_D := Lib.hid (HX_D.out.below hb)
  replace HB := Lib.hid (HB.out.trans (hb.mono hs0))
  replace hN : N ≤ wh.heap.size := Nat.le_trans hN hb.size
  replace hs0 : w.heap.size ≤ wh.heap.size := Nat.le_trans hs0 hb.size
  replace hl_A : wa.heap.size < wh.heap.size := Nat.lt_of_lt_of_le hl_A hb.size
  replace hl_C : wb.heap.size < wh.heap.size := Nat.lt_of_lt_of_le hl_C hb.size
  replace hl_D : wf.heap.size < wh.heap.size := Nat.lt_of_lt_of_le hl_D hb.size
  clear hb
  go_wp2_with fail
  refine calls_name fun W8 hW => ?_
  have HL_W8 := Lib.hid (show Below wh.heap.size wh W8 by rw [← hW]; exact BlA)
  have hs_W8 : wh.heap.size ≤ W8.heap.size := by rw [← hW]; exact OmA
  replace k_A_0 : W8.cell? ⟨wa.heap.size, 0, none⟩ = some (.bool false) := (HL_W8.out.cell (p := ⟨wa.heap.size, 0, none⟩) hl_A).trans k_A_0
  replace k_A_1 : W8.cell? ⟨wa.heap.size, 1, none⟩ = some (.slice none 0 0) := (HL_W8.out.cell (p := ⟨wa.heap.size, 1, none⟩) hl_A).trans k_A_1
  replace k_A_2 : W8.cell? ⟨wa.heap.size, 2, none⟩ = some (.slice none 0 0) := (HL_W8.out.cell (p := ⟨wa.heap.size, 2, none⟩) hl_A).trans k_A_2
  replace f_A : ∀ o, W8.frozen? ⟨wa.heap.size, o, none⟩ = false := fun o => (HL_W8.out.frozen (p := ⟨wa.heap.size, o, none⟩) hl_A).trans (f_A o)
  replace HX_A := Lib.hid (show Bn W8 (wa.heap.size) by rw [← hW]; exact KpA)
  replace k_C_0 : W8.cell? ⟨wb.heap.size, 0, none⟩ = some (.bool false) := (HL_W8.out.cell (p := ⟨wb.heap.size, 0, none⟩) hl_C).trans k_C_0
  replace k_C_1 : W8.cell? ⟨wb.heap.size, 1, none⟩ = some (.slice none 0 0) := (HL_W8.out.cell (p := ⟨wb.heap.size, 1, none⟩) hl_C).trans k_C_1
  replace k_C_2 : W8.cell? ⟨wb.heap.size, 2, none⟩ = some (.slice none 0 0) := (HL_W8.out.cell (p := ⟨wb.heap.size, 2, none⟩) hl_C).trans k_C_2
  replace f_C : ∀ o, W8.frozen? ⟨wb.heap.size, o, none⟩ = false := fun o => (HL_W8.out.frozen (p := ⟨wb.heap.size, o, none⟩) hl_C).trans (f_C o)
  replace HX_C := Lib.hid (show Bn W8 (wb.heap.size) by rw [← hW]; exact KpA)
  replace k_D_0 : W8.cell? ⟨wf.heap.size, 0, none⟩ = some (.bool false) := (HL_W8.out.cell (p := ⟨wf.heap.size, 0, none⟩) hl_D).trans k_D_0
  replace k_D_1 : W8.cell? ⟨wf.heap.size, 1, none⟩ = some (.slice none 0 0) := (HL_W8.out.cell (p := ⟨wf.heap.size, 1, none⟩) hl_D).trans k_D_1
  replace k_D_2 : W8.cell? ⟨wf.heap.size, 2, none⟩ = some (.slice none 0 0) := (HL_W8.out.cell (p := ⟨wf.heap.size, 2, none⟩) hl_D).trans k_D_2
  replace f_D : ∀ o, W8.frozen? ⟨wf.heap.size, o, none⟩ = false := fun o => (HL_W8.out.frozen (p := ⟨wf.heap.size, o, none⟩) hl_D).trans (f_D o)
  replace HX_D := Lib.hid (show Bn W8 (wf.heap.size) by rw [← hW]; exact KpA)
  replace HB := Lib.hid (show Below w.heap.size w W8 by rw [← hW]; exact BlA)
  replace hN : N ≤ W8.heap.size := by rw [← hW]; exact OmA
  replace hs0 : w.heap.size ≤ W8.heap.size := by rw [← hW]; exact OmA
  replace hl_A : wa.heap.size < W8.heap.size := by rw [← hW]; exact OmA
  replace hl_C : wb.heap.size < W8.heap.size := by rw [← hW]; exact OmA
  replace hl_D : wf.heap.size < W8.heap.size := by rw [← hW]; exact OmA
  clear HL_W8
  clear hW
  refine (awake_any (N := N) _ hN (HT.out.below HB.out)).mono ?_
  rintro e wi ⟨rfl, hb⟩
  have hs_wi : W8.heap.size ≤ wi.heap.size := hb.size
  replace k_A_0 : wi.cell? ⟨wa.heap.size, 0, none⟩ = some (.bool false) := (hb.cell (p := ⟨wa.heap.size, 0, none⟩) hl_A).trans k_A_0
  replace k_A_1 : wi.cell? ⟨wa.heap.size, 1, none⟩ = some (.slice none 0 0) := (hb.cell (p := ⟨wa.heap.size, 1, none⟩) hl_A).trans k_A_1
  replace k_A_2 : wi.cell? ⟨wa.heap.size, 2, none⟩ = some (.slice none 0 0) := (hb.cell (p := ⟨wa.heap.size, 2, none⟩) hl_A).trans k_A_2
  replace f_A : ∀ o, wi.frozen? ⟨wa.heap.size, o, none⟩ = false := fun o => (hb.frozen (p := ⟨wa.heap.size, o, none⟩) hl_A).trans (f_A o)
  replace HX_A := Lib.hid (HX_A.out.below hb)
  replace k_C_0 : wi.cell? ⟨wb.heap.size, 0, none⟩ = some (.bool false) := (hb.cell (p := ⟨wb.heap.size, 0, none⟩) hl_C).trans k_C_0
  replace k_C_1 : wi.cell? ⟨wb.heap.size, 1, none⟩ = some (.slice none 0 0) := (hb.cell (p := ⟨wb.heap.size, 1, none⟩) hl_C).trans k_C_1
  replace k_C_2 : wi.cell? ⟨wb.heap.size, 2, none⟩ = some (.slice none 0 0) := (hb.cell (p := ⟨wb.heap.size, 2, none⟩) hl_C).trans k_C_2
  replace f_C : ∀ o, wi.frozen? ⟨wb.heap.size, o, none⟩ = false := fun o => (hb.frozen (p := ⟨wb.heap.size, o, none⟩) hl_C).trans (f_C o)
  replace HX_C := Lib.hid (HX_C.out.below hb)
  replace k_D_0 : wi.cell? ⟨wf.heap.size, 0, none⟩ = some (.bool false) := (hb.cell (p := ⟨wf.heap.size, 0, none⟩) hl_D).trans k_D_0
  replace k_D_1 : wi.cell? ⟨wf.heap.size, 1, none⟩ = some (.slice none 0 0) := (hb.cell (p := ⟨wf.heap.size, 1, none⟩) hl_D).trans k_D_1
  replace k_D_2 : wi.cell? ⟨wf.heap.size, 2, none⟩ = some (.slice none 0 0) := (hb.cell (p := ⟨wf.heap.size, 2, none⟩) hl_D).trans k_D_2
  replace f_D : ∀ o, wi.frozen? ⟨wf.heap.size, o, none⟩ = false := fun o => (hb.frozen (p := ⟨wf.heap.size, o, none⟩) hl_D).trans (f_D o)
  replace HX_D := Lib.hid (HX_D.out.below hb)
  replace HB := Lib.hid (HB.out.trans (hb.mono hs0))
  replace hN : N ≤ wi.heap.size := Nat.le_trans hN hb.size
  replace hs0 : w.heap.size ≤ wi.heap.size := Nat.le_trans hs0 hb.size
  replace hl_A : wa.heap.size < wi.heap.size := Nat.lt_of_lt_of_le hl_A hb.size
  replace hl_C : wb.heap.size < wi.heap.size := Nat.lt_of_lt_of_le hl_C hb.size
  replace hl_D : wf.heap.size < wi.heap.size := Nat.lt_of_lt_of_le hl_D hb.size
  clear hb
  go_wp2_with fail
  go_ret
  exact ⟨rfl, HB.out⟩

set_option maxHeartbeats 4000000 in
theorem mom_yes {N : Nat} (a : Option Addr) (n cap : Nat) (q : Nat → Rat) (L : Nat) (w : World) (hN : N ≤ w.heap.size) (h : Rs N w a n cap q L) (hL : L ≤ 2097152) (htab : TabW w) (hv : valid q n = true) : Calls Tryz.prog 3 #[.slice a n cap] w fun e w' => e = .returned (.bool true) ∧ Below w.heap.size w w' := by
  obtain ⟨m, hm⟩ : ∃ p, meanQ q n = p := ⟨_, rfl⟩
  obtain ⟨v, hs⟩ : ∃ p, varQ q n = p := ⟨_, rfl⟩
  have HM := Lib.hid hm
  have HS := Lib.hid hs
  clear hm hs
  have hN0 := hN
  have HA := Lib.hid h
  have HT := Lib.hid htab
  have HV := Lib.hid hv
  have bc1 := h.1
  have bc2 := h.2.1
  unfold maxLen at bc2
  clear h hv htab
  have HB := Lib.hid (Below.refl w.heap.size w)
  go_enter Tryz.func3, Tryz.ntmps3
  go_wp2_with fail
  refine calls_name fun W0 hW => ?_
  have hs_W0 : w.heap.size ≤ W0.heap.size := by rw [← hW]; exact OmA
  replace HB := Lib.hid (show Below w.heap.size w W0 by rw [← hW]; exact BlA)
  replace hN : N ≤ W0.heap.size := by rw [← hW]; exact OmA
  have hs0 : w.heap.size ≤ W0.heap.size := by rw [← hW]; exact OmA
  clear hW
  refine (Mean_ok (N := N) _ _ _ q L _ hN (HA.out.below HB.out) hL HV.out m HM.out).mono ?_
  rintro e wa ⟨ra, ca, ra2, ca2, rfl, hn, hn', hb⟩
  have hs_wa : W0.heap.size ≤ wa.heap.size := hb.size
  replace HB := Lib.hid (HB.out.trans (hb.mono hs0))
  replace hN : N ≤ wa.heap.size := Nat.le_trans hN hb.size
  replace hs0 : w.heap.size ≤ wa.heap.size := Nat.le_trans hs0 hb.size
  clear hb
  have HA1 := Lib.hid hn
  clear hn
  have HA2 := Lib.hid hn'
  clear hn'
  go_wp2_with fail
  refine calls_name fun W1 hW => ?_
  have hs_W1 : wa.heap.size ≤ W1.heap.size := by rw [← hW]; exact OmA
  have HK_W1 := Lib.hid (show Kp N wa W1 by rw [← hW]; exact KpA)
  have k_A_0 : W1.cell? ⟨wa.heap.size, 0, none⟩ = some (.bool (decide ((m).num < 0))) := by rw [← hW]; (first | (go_simp; done) | (simp; done) | (simp [go_sem]; done) | (simp [go_sem]; done))
  have k_A_1 : W1.cell? ⟨wa.heap.size, 1, none⟩ = some (.slice ra (nlen (m).num.natAbs) ca) := by rw [← hW]; (first | (go_simp; done) | (simp; done) | (simp [go_sem]; done) | (simp [go_sem]; done))
  have k_A_2 : W1.cell? ⟨wa.heap.size, 2, none⟩ = some (.slice ra2 (nlen (m).den) ca2) := by rw [← hW]; (first | (go_simp; done) | (simp; done) | (simp [go_sem]; done) | (simp [go_sem]; done))
  have f_A : ∀ o, W1.frozen? ⟨wa.heap.size, o, none⟩ = false := by intro o; rw [← hW]; (first | (go_simp; done) | (simp; done) | (simp [go_sem]; done) | (simp [go_sem]; done))
  have HX_A := Lib.hid (show Bn W1 (wa.heap.size) by rw [← hW]; exact KpA)
  replace HA1 := Lib.hid (HA1.out.keep HK_W1.out)
  replace HA2 := Lib.hid (HA2.out.keep HK_W1.out)
  replace HB := Lib.hid (show Below w.heap.size w W1 by rw [← hW]; exact BlA)
  replace hN : N ≤ W1.heap.size := by rw [← hW]; exact OmA
  replace hs0 : w.heap.size ≤ W1.heap.size := by rw [← hW]; exact OmA
  have hl_A : wa.heap.size < W1.heap.size := by rw [← hW]; exact OmA
  clear hW HK_W1
  refine (xMean_ok (N := N) _ _ _ q L _ hN (HA.out.below HB.out) hL HV.out m HM.out).mono ?_
  rintro e wb ⟨rb, cb, rb2, cb2, rfl, hn, hn', hb⟩
  have hs_wb : W1.heap.size ≤ wb.heap.size := hb.size
  replace k_A_0 : wb.cell? ⟨wa.heap.size, 0, none⟩ = some (.bool (decide ((m).num < 0))) := (hb.cell (p := ⟨wa.heap.size, 0, none⟩) hl_A).trans k_A_0
  replace k_A_1 : wb.cell? ⟨wa.heap.size, 1, none⟩ = some (.slice ra (nlen (m).num.natAbs) ca) := (hb.cell (p := ⟨wa.heap.size, 1, none⟩) hl_A).trans k_A_1
  replace k_A_2 : wb.cell? ⟨wa.heap.size, 2, none⟩ = some (.slice ra2 (nlen (m).den) ca2) := (hb.cell (p := ⟨wa.heap.size, 2, none⟩) hl_A).trans k_A_2
  replace f_A : ∀ o, wb.frozen? ⟨wa.heap.size, o, none⟩ = false := fun o => (hb.frozen (p := ⟨wa.heap.size, o, none⟩) hl_A).trans (f_A o)
  replace HX_A := Lib.hid (HX_A.out.below hb)
  replace HA1 := Lib.hid (HA1.out.below hb)
  replace HA2 := Lib.hid (HA2.out.below hb)
  replace HB := Lib.hid (HB.out.trans (hb.mono hs0))
  replace hN : N ≤ wb.heap.size := Nat.le_trans hN hb.size
  replace hs0 : w.heap.size ≤ wb.heap.size := Nat.le_trans hs0 hb.size
  replace hl_A : wa.heap.size < wb.heap.size := Nat.lt_of_lt_of_le hl_A hb.size
  clear hb
  have HB1 := Lib.hid hn
  clear hn
  have HB2 := Lib.hid hn'
  clear hn'
  go_wp2_with fail
  refine calls_name fun W2 hW => ?_
  have HL_W2 := Lib.hid (show Below wb.heap.size wb W2 by rw [← hW]; exact BlA)
  have hs_W2 : wb.heap.size ≤ W2.heap.size := by rw [← hW]; exact OmA
  have hd_A_C : wa.heap.size < wb.heap.size := by omega
  have HK_W2 := Lib.hid (show Kp N wb W2 by rw [← hW]; exact KpA)
  replace k_A_0 : W2.cell? ⟨wa.heap.size, 0, none⟩ = some (.bool (decide ((m).num < 0))) := (HL_W2.out.cell (p := ⟨wa.heap.size, 0, none⟩) hl_A).trans k_A_0
  replace k_A_1 : W2.cell? ⟨wa.heap.size, 1, none⟩ = some (.slice ra (nlen (m).num.natAbs) ca) := (HL_W2.out.cell (p := ⟨wa.heap.size, 1, none⟩) hl_A).trans k_A_1
  replace k_A_2 : W2.cell? ⟨wa.heap.size, 2, none⟩ = some (.slice ra2 (nlen (m).den) ca2) := (HL_W2.out.cell (p := ⟨wa.heap.size, 2, none⟩) hl_A).trans k_A_2
  replace f_A : ∀ o, W2.frozen? ⟨wa.heap.size, o, none⟩ = false := fun o => (HL_W2.out.frozen (p := ⟨wa.heap.size, o, none⟩) hl_A).trans (f_A o)
  replace HX_A := Lib.hid (show Bn W2 (wa.heap.size) by rw [← hW]; exact KpA)
  have k_C_0 : W2.cell? ⟨wb.heap.size, 0, none⟩ = some (.bool (decide ((m).num < 0))) := by rw [← hW]; (first | (go_simp; done) | (simp; done) | (simp [go_sem]; done))
  have k_C_1 : W2.cell? ⟨wb.heap.size, 1, none⟩ = some (.slice rb (nlen (m).num.natAbs) cb) := by rw [← hW]; (first | (go_simp; done) | (simp; done) | (simp [go_sem]; done))
  have k_C_2 : W2.cell? ⟨wb.heap.size, 2, none⟩ = some (.slice rb2 (nlen (m).den) cb2) := by rw [← hW]; (first | (go_simp; done) | (simp; done) | (simp [go_sem]; done))
  have f_C : ∀ o, W2.frozen? ⟨wb.heap.size, o, none⟩ = false := by intro o; rw [← hW]; (first | (go_simp; done) | (simp; done) | (simp [go_sem]; done))
  have HX_C := Lib.hid (show Bn W2 (wb.heap.size) by rw [← hW]; exact KpA)
  replace HA1 := Lib.hid (HA1.out.keep HK_W2.out)
  replace HA2 := Lib.hid (HA2.out.keep HK_W2.out)
  replace HB1 := Lib.hid (HB1.out.keep HK_W2.out)
  replace HB2 := Lib.hid (HB2.out.keep HK_W2.out)
  replace HB := Lib.hid (show Below w.heap.size w W2 by rw [← hW]; exact BlA)
  replace hN : N ≤ W2.heap.size := by rw [← hW]; exact OmA
  replace hs0 : w.heap.size ≤ W2.heap.size := by rw [← hW]; exact OmA
  replace hl_A : wa.heap.size < W2.heap.size := by rw [← hW]; exact OmA
  have hl_C : wb.heap.size < W2.heap.size := by rw [← hW]; exact OmA
  clear HL_W2
  clear hW HK_W2
  refine (Valid_any (N := N) _ _ _ q L _ hN (HA.out.below HB.out) hL true HV.out).mono ?_
  rintro e wc ⟨rfl, hb⟩
  have hs_wc : W2.heap.size ≤ wc.heap.size := hb.size
  replace k_A_0 : wc.cell? ⟨wa.heap.size, 0, none⟩ = some (.bool (decide ((m).num < 0))) := (hb.cell (p := ⟨wa.heap.size, 0, none⟩) hl_A).trans k_A_0
  replace k_A_1 : wc.cell? ⟨wa.heap.size, 1, none⟩ = some (.slice ra (nlen (m).num.natAbs) ca) := (hb.cell (p := ⟨wa.heap.size, 1, none⟩) hl_A).trans k_A_1
  replace k_A_2 : wc.cell? ⟨wa.heap.size, 2, none⟩ = some (.slice ra2 (nlen (m).den) ca2) := (hb.cell (p := ⟨wa.heap.size, 2, none⟩) hl_A).trans k_A_2
  replace f_A : ∀ o, wc.frozen? ⟨wa.heap.size, o, none⟩ = false := fun o => (hb.frozen (p := ⟨wa.heap.size, o, none⟩) hl_A).trans (f_A o)
  replace HX_A := Lib.hid (HX_A.out.below hb)
  replace k_C_0 : wc.cell? ⟨wb.heap.size, 0, none⟩ = some (.bool (decide ((m).num < 0))) := (hb.cell (p := ⟨wb.heap.size, 0, none⟩) hl_C).trans k_C_0
  replace k_C_1 : wc.cell? ⟨wb.heap.size, 1, none⟩ = some (.slice rb (nlen (m).num.natAbs) cb) := (hb.cell (p := ⟨wb.heap.size, 1, none⟩) hl_C).trans k_C_1
  replace k_C_2 : wc.cell? ⟨wb.heap.size, 2, none⟩ = some (.slice rb2 (nlen (m).den) cb2) := (hb.cell (p := ⟨wb.heap.size, 2, none⟩) hl_C).trans k_C_2
  replace f_C : ∀ o, wc.frozen? ⟨wb.heap.size, o, none⟩ = false := fun o => (hb.frozen (p := ⟨wb.heap.size, o, none⟩) hl_C).trans (f_C o)
  replace HX_C := Lib.hid (HX_C.out.below hb)
  replace HA1 := Lib.hid (HA1.out.below hb)
  replace HA2 := Lib.hid (HA2.out.below hb)
  replace HB1 := Lib.hid (HB1.out.below hb)
  replace HB2 := Lib.hid (HB2.out.below hb)
  replace HB := Lib.hid (HB.out.trans (hb.mono hs0))
  replace hN : N ≤ wc.heap.size := Nat.le_trans hN hb.size
  replace hs0 : w.heap.size ≤ wc.heap.size := Nat.le_trans hs0 hb.size
  replace hl_A : wa.heap.size < wc.heap.size := Nat.lt_of_lt_of_le hl_A hb.size
  replace hl_C : wb.heap.size < wc.heap.size := Nat.lt_of_lt_of_le hl_C hb.size
  clear hb
  go_wp2_with fail
  refine calls_name fun W3 hW => ?_
  have HL_W3 := Lib.hid (show Below wc.heap.size wc W3 by rw [← hW]; exact BlA)
  have hs_W3 : wc.heap.size ≤ W3.heap.size := by rw [← hW]; exact OmA
  have HK_W3 := Lib.hid (show Kp N wc W3 by rw [← hW]; exact KpA)
  replace k_A_0 : W3.cell? ⟨wa.heap.size, 0, none⟩ = some (.bool (decide ((m).num < 0))) := (HL_W3.out.cell (p := ⟨wa.heap.size, 0, none⟩) hl_A).trans k_A_0
  replace k_A_1 : W3.cell? ⟨wa.heap.size, 1, none⟩ = some (.slice ra (nlen (m).num.natAbs) ca) := (HL_W3.out.cell (p := ⟨wa.heap.size, 1, none⟩) hl_A).trans k_A_1
  replace k_A_2 : W3.cell? ⟨wa.heap.size, 2, none⟩ = some (.slice ra2 (nlen (m).den) ca2) := (HL_W3.out.cell (p := ⟨wa.heap.size, 2, none⟩) hl_A).trans k_A_2
  replace f_A : ∀ o, W3.frozen? ⟨wa.heap.size, o, none⟩ = false := fun o => (HL_W3.out.frozen (p := ⟨wa.heap.size, o, none⟩) hl_A).trans (f_A o)
  replace HX_A := Lib.hid (show Bn W3 (wa.heap.size) by rw [← hW]; exact KpA)
  replace k_C_0 : W3.cell? ⟨wb.heap.size, 0, none⟩ = some (.bool (decide ((m).num < 0))) := (HL_W3.out.cell (p := ⟨wb.heap.size, 0, none⟩) hl_C).trans k_C_0
  replace k_C_1 : W3.cell? ⟨wb.heap.size, 1, none⟩ = some (.slice rb (nlen (m).num.natAbs) cb) := (HL_W3.out.cell (p := ⟨wb.heap.size, 1, none⟩) hl_C).trans k_C_1
  replace k_C_2 : W3.cell? ⟨wb.heap.size, 2, none⟩ = some (.slice rb2 (nlen (m).den) cb2) := (HL_W3.out.cell (p := ⟨wb.heap.size, 2, none⟩) hl_C).trans k_C_2
  replace f_C : ∀ o, W3.frozen? ⟨wb.heap.size, o, none⟩ = false := fun o => (HL_W3.out.frozen (p := ⟨wb.heap.size, o, none⟩) hl_C).trans (f_C o)
  replace HX_C := Lib.hid (show Bn W3 (wb.heap.size) by rw [← hW]; exact KpA)
  replace HA1 := Lib.hid (HA1.out.keep HK_W3.out)
  replace HA2 := Lib.hid (HA2.out.keep HK_W3.out)
  replace HB1 := Lib.hid (HB1.out.keep HK_W3.out)
  replace HB2 := Lib.hid (HB2.out.keep HK_W3.out)
  replace HB := Lib.hid (show Below w.heap.size w W3 by rw [← hW]; exact BlA)
  replace hN : N ≤ W3.heap.size := by rw [← hW]; exact OmA
  replace hs0 : w.heap.size ≤ W3.heap.size := by rw [← hW]; exact OmA
  replace hl_A : wa.heap.size < W3.heap.size := by rw [← hW]; exact OmA
  replace hl_C : wb.heap.size < W3.heap.size := by rw [← hW]; exact OmA
  clear HL_W3
  clear hW HK_W3
  refine (xvalid_any (N := N) _ _ _ q L _ hN (HA.out.below HB.out) hL true HV.out).mono ?_
  rintro e wd ⟨rfl, hb⟩
  have hs_wd : W3.heap.size ≤ wd.heap.size := hb.size
  replace k_A_0 : wd.cell? ⟨wa.heap.size, 0, none⟩ = some (.bool (decide ((m).num < 0))) := (hb.cell (p := ⟨wa.heap.size, 0, none⟩) hl_A).trans k_A_0
  replace k_A_1 : wd.cell? ⟨wa.heap.size, 1, none⟩ = some (.slice ra (nlen (m).num.natAbs) ca) := (hb.cell (p := ⟨wa.heap.size, 1, none⟩) hl_A).trans k_A_1
  replace k_A_2 : wd.cell? ⟨wa.heap.size, 2, none⟩ = some (.slice ra2 (nlen (m).den) ca2) := (hb.cell (p := ⟨wa.heap.size, 2, none⟩) hl_A).trans k_A_2
  replace f_A : ∀ o, wd.frozen? ⟨wa.heap.size, o, none⟩ = false := fun o => (hb.frozen (p := ⟨wa.heap.size, o, none⟩) hl_A).trans (f_A o)
  replace HX_A := Lib.hid (HX_A.out.below hb)
  replace k_C_0 : wd.cell? ⟨wb.heap.size, 0, none⟩ = some (.bool (decide ((m).num < 0))) := (hb.cell (p := ⟨wb.heap.size, 0, none⟩) hl_C).trans k_C_0
  replace k_C_1 : wd.cell? ⟨wb.heap.size, 1, none⟩ = some (.slice rb (nlen (m).num.natAbs) cb) := (hb.cell (p := ⟨wb.heap.size, 1, none⟩) hl_C).trans k_C_1
  replace k_C_2 : wd.cell? ⟨wb.heap.size, 2, none⟩ = some (.slice rb2 (nlen (m).den) cb2) := (hb.cell (p := ⟨wb.heap.size, 2, none⟩) hl_C).trans k_C_2
  replace f_C : ∀ o, wd.frozen? ⟨wb.heap.size, o, none⟩ = false := fun o => (hb.frozen (p := ⟨wb.heap.size, o, none⟩) hl_C).trans (f_C o)
  replace HX_C := Lib.hid (HX_C.out.below hb)
  replace HA1 := Lib.hid (HA1.out.below hb)
  replace HA2 := Lib.hid (HA2.out.below hb)
  replace HB1 := Lib.hid (HB1.out.below hb)
  replace HB2 := Lib.hid (HB2.out.below hb)
  replace HB := Lib.hid (HB.out.trans (hb.mono hs0))
  replace hN : N ≤ wd.heap.size := Nat.le_trans hN hb.size
  replace hs0 : w.heap.size ≤ wd.heap.size := Nat.le_trans hs0 hb.size
  replace hl_A : wa.heap.size < wd.heap.size := Nat.lt_of_lt_of_le hl_A hb.size
  replace hl_C : wb.heap.size < wd.heap.size := Nat.lt_of_lt_of_le hl_C hb.size
  clear hb
  go_wp2_with fail
  refine calls_name fun W4 hW => ?_
  have HL_W4 := Lib.hid (show Below wd.heap.size wd W4 by rw [← hW]; exact BlA)
  have hs_W4 : wd.heap.size ≤ W4.heap.size := by rw [← hW]; exact OmA
  have HK_W4 := Lib.hid (show Kp N wd W4 by rw [← hW]; exact KpA)
  replace k_A_0 : W4.cell? ⟨wa.heap.size, 0, none⟩ = some (.bool (decide ((m).num < 0))) := (HL_W4.out.cell (p := ⟨wa.heap.size, 0, none⟩) hl_A).trans k_A_0
  replace k_A_1 : W4.cell? ⟨wa.heap.size, 1, none⟩ = some (.slice ra (nlen (m).num.natAbs) ca) := (HL_W4.out.cell (p := ⟨wa.heap.size, 1, none⟩) hl_A).trans k_A_1
  replace k_A_2 : W4.cell? ⟨wa.heap.size, 2, none⟩ = some (.slice ra2 (nlen (m).den) ca2) := (HL_W4.out.cell (p := ⟨wa.heap.size, 2, none⟩) hl_A).trans k_A_2
  replace f_A : ∀ o, W4.frozen? ⟨wa.heap.size, o, none⟩ = false := fun o => (HL_W4.out.frozen (p := ⟨wa.heap.size, o, none⟩) hl_A).trans (f_A o)
  replace HX_A := Lib.hid (show Bn W4 (wa.heap.size) by rw [← hW]; exact KpA)
  replace k_C_0 : W4.cell? ⟨wb.heap.size, 0, none⟩ = some (.bool (decide ((m).num < 0))) := (HL_W4.out.cell (p := ⟨wb.heap.size, 0, none⟩) hl_C).trans k_C_0
  replace k_C_1 : W4.cell? ⟨wb.heap.size, 1, none⟩ = some (.slice rb (nlen (m).num.natAbs) cb) := (HL_W4.out.cell (p := ⟨wb.heap.size, 1, none⟩) hl_C).trans k_C_1
  replace k_C_2 : W4.cell? ⟨wb.heap.size, 2, none⟩ = some (.slice rb2 (nlen (m).den) cb2) := (HL_W4.out.cell (p := ⟨wb.heap.size, 2, none⟩) hl_C).trans k_C_2
  replace f_C : ∀ o, W4.frozen? ⟨wb.heap.size, o, none⟩ = false := fun o => (HL_W4.out.frozen (p := ⟨wb.heap.size, o, none⟩) hl_C).trans (f_C o)
  replace HX_C := Lib.hid (show Bn W4 (wb.heap.size) by rw [← hW]; exact KpA)
  replace HA1 := Lib.hid (HA1.out.keep HK_W4.out)
  replace HA2 := Lib.hid (HA2.out.keep HK_W4.out)
  replace HB1 := Lib.hid (HB1.out.keep HK_W4.out)
  replace HB2 := Lib.hid (HB2.out.keep HK_W4.out)
  replace HB := Lib.hid (show Below w.heap.size w W4 by rw [← hW]; exact BlA)
  replace hN : N ≤ W4.heap.size := by rw [← hW]; exact OmA
  replace hs0 : w.heap.size ≤ W4.heap.size := by rw [← hW]; exact OmA
  replace hl_A : wa.heap.size < W4.heap.size := by rw [← hW]; exact OmA
  replace hl_C : wb.heap.size < W4.heap.size := by rw [← hW]; exact OmA
  clear HL_W4
  clear hW HK_W4
  refine (SameRatio_any (N := N) _ _ _ _ _ _ _ _ m.num.natAbs _ _ _ m.den _ hN HA1.out HB1.out HA2.out HB2.out).mono ?_
  rintro e we ⟨rfl, hb⟩
  have hs_we : W4.heap.size ≤ we.heap.size := hb.size
  replace k_A_0 : we.cell? ⟨wa.heap.size, 0, none⟩ = some (.bool (decide ((m).num < 0))) := (hb.cell (p := ⟨wa.heap.size, 0, none⟩) hl_A).trans k_A_0
  replace k_A_1 : we.cell? ⟨wa.heap.size, 1, none⟩ = some (.slice ra (nlen (m).num.natAbs) ca) := (hb.cell (p := ⟨wa.heap.size, 1, none⟩) hl_A).trans k_A_1
  replace k_A_2 : we.cell? ⟨wa.heap.size, 2, none⟩ = some (.slice ra2 (nlen (m).den) ca2) := (hb.cell (p := ⟨wa.heap.size, 2, none⟩) hl_A).trans k_A_2
  replace f_A : ∀ o, we.frozen? ⟨wa.heap.size, o, none⟩ = false := fun o => (hb.frozen (p := ⟨wa.heap.size, o, none⟩) hl_A).trans (f_A o)
  replace HX_A := Lib.hid (HX_A.out.below hb)
  replace k_C_0 : we.cell? ⟨wb.heap.size, 0, none⟩ = some (.bool (decide ((m).num < 0))) := (hb.cell (p := ⟨wb.heap.size, 0, none⟩) hl_C).trans k_C_0
  replace k_C_1 : we.cell? ⟨wb.heap.size, 1, none⟩ = some (.slice rb (nlen (m).num.natAbs) cb) := (hb.cell (p := ⟨wb.heap.size, 1, none⟩) hl_C).trans k_C_1
  replace k_C_2 : we.cell? ⟨wb.heap.size, 2, none⟩ = some (.slice rb2 (nlen (m).den) cb2) := (hb.cell (p := ⟨wb.heap.size, 2, none⟩) hl_C).trans k_C_2
  replace f_C : ∀ o, we.frozen? ⟨wb.heap.size, o, none⟩ = false := fun o => (hb.frozen (p := ⟨wb.heap.size, o, none⟩) hl_C).trans (f_C o)
  replace HX_C := Lib.hid (HX_C.out.below hb)
  replace HA1 := Lib.hid (HA1.out.below hb)
  replace HA2 := Lib.hid (HA2.out.below hb)
  replace HB1 := Lib.hid (HB1.out.below hb)
  replace HB2 := Lib.hid (HB2.out.below hb)
  replace HB := Lib.hid (HB.out.trans (hb.mono hs0))
  replace hN : N ≤ we.heap.size := Nat.le_trans hN hb.size
  replace hs0 : w.heap.size ≤ we.heap.size := Nat.le_trans hs0 hb.size
  replace hl_A : wa.heap.size < we.heap.size := Nat.lt_of_lt_of_le hl_A hb.size
  replace hl_C : wb.heap.size < we.heap.size := Nat.lt_of_lt_of_le hl_C hb.size
  clear hb
  go_wp2_with fail
  refine calls_name fun W5 hW => ?_
  have HL_W5 := Lib.hid (show Below we.heap.size we W5 by rw [← hW]; exact BlA)
  have hs_W5 : we.heap.size ≤ W5.heap.size := by rw [← hW]; exact OmA
  have HK_W5 := Lib.hid (show Kp N we W5 by rw [← hW]; exact KpA)
  replace k_A_0 : W5.cell? ⟨wa.heap.size, 0, none⟩ = some (.bool (decide ((m).num < 0))) := (HL_W5.out.cell (p := ⟨wa.heap.size, 0, none⟩) hl_A).trans k_A_0
  replace k_A_1 : W5.cell? ⟨wa.heap.size, 1, none⟩ = some (.slice ra (nlen (m).num.natAbs) ca) := (HL_W5.out.cell (p := ⟨wa.heap.size, 1, none⟩) hl_A).trans k_A_1
  replace k_A_2 : W5.cell? ⟨wa.heap.size, 2, none⟩ = some (.slice ra2 (nlen (m).den) ca2) := (HL_W5.out.cell (p := ⟨wa.heap.size, 2, none⟩) hl_A).trans k_A_2
  replace f_A : ∀ o, W5.frozen? ⟨wa.heap.size, o, none⟩ = false := fun o => (HL_W5.out.frozen (p := ⟨wa.heap.size, o, none⟩) hl_A).trans (f_A o)
  replace HX_A := Lib.hid (show Bn W5 (wa.heap.size) by rw [← hW]; exact KpA)
  replace k_C_0 : W5.cell? ⟨wb.heap.size, 0, none⟩ = some (.bool (decide ((m).num < 0))) := (HL_W5.out.cell (p := ⟨wb.heap.size, 0, none⟩) hl_C).trans k_C_0
  replace k_C_1 : W5.cell? ⟨wb.heap.size, 1, none⟩ = some (.slice rb (nlen (m).num.natAbs) cb) := (HL_W5.out.cell (p := ⟨wb.heap.size, 1, none⟩) hl_C).trans k_C_1
  replace k_C_2 : W5.cell? ⟨wb.heap.size, 2, none⟩ = some (.slice rb2 (nlen (m).den) cb2) := (HL_W5.out.cell (p := ⟨wb.heap.size, 2, none⟩) hl_C).trans k_C_2
  replace f_C : ∀ o, W5.frozen? ⟨wb.heap.size, o, none⟩ = false := fun o => (HL_W5.out.frozen (p := ⟨wb.heap.size, o, none⟩) hl_C).trans (f_C o)
  replace HX_C := Lib.hid (show Bn W5 (wb.heap.size) by rw [← hW]; exact KpA)
  replace HA1 := Lib.hid (HA1.out.keep HK_W5.out)
  replace HA2 := Lib.hid (HA2.out.keep HK_W5.out)
  replace HB1 := Lib.hid (HB1.out.keep HK_W5.out)
  replace HB2 := Lib.hid (HB2.out.keep HK_W5.out)
  replace HB := Lib.hid (show Below w.heap.size w W5 by rw [← hW]; exact BlA)
  replace hN : N ≤ W5.heap.size := by rw [← hW]; exact OmA
  replace hs0 : w.heap.size ≤ W5.heap.size := by rw [← hW]; exact OmA
  replace hl_A : wa.heap.size < W5.heap.size := by rw [← hW]; exact OmA
  replace hl_C : wb.heap.size < W5.heap.size := by rw [← hW]; exact OmA
  clear HL_W5
  clear hW HK_W5
  refine (Variance_ok (N := N) _ _ _ q L _ hN (HA.out.below HB.out) hL HV.out v HS.out).mono ?_
  rintro e wf ⟨rc, cc, rc2, cc2, rfl, hn, hn', hb⟩
  have hs_wf : W5.heap.size ≤ wf.heap.size := hb.size
  replace k_A_0 : wf.cell? ⟨wa.heap.size, 0, none⟩ = some (.bool (decide ((m).num < 0))) := (hb.cell (p := ⟨wa.heap.size, 0, none⟩) hl_A).trans k_A_0
  replace k_A_1 : wf.cell? ⟨wa.heap.size, 1, none⟩ = some (.slice ra (nlen (m).num.natAbs) ca) := (hb.cell (p := ⟨wa.heap.size, 1, none⟩) hl_A).trans k_A_1
  replace k_A_2 : wf.cell? ⟨wa.heap.size, 2, none⟩ = some (.slice ra2 (nlen (m).den) ca2) := (hb.cell (p := ⟨wa.heap.size, 2, none⟩) hl_A).trans k_A_2
  replace f_A : ∀ o, wf.frozen? ⟨wa.heap.size, o, none⟩ = false := fun o => (hb.frozen (p := ⟨wa.heap.size, o, none⟩) hl_A).trans (f_A o)
  replace HX_A := Lib.hid (HX_A.out.below hb)
  replace k_C_0 : wf.cell? ⟨wb.heap.size, 0, none⟩ = some (.bool (decide ((m).num < 0))) := (hb.cell (p := ⟨wb.heap.size, 0, none⟩) hl_C).trans k_C_0
  replace k_C_1 : wf.cell? ⟨wb.heap.size, 1, none⟩ = some (.slice rb (nlen (m).num.natAbs) cb) := (hb.cell (p := ⟨wb.heap.size, 1, none⟩) hl_C).trans k_C_1
  replace k_C_2 : wf.cell? ⟨wb.heap.size, 2, none⟩ = some (.slice rb2 (nlen (m).den) cb2) := (hb.cell (p := ⟨wb.heap.size, 2, none⟩) hl_C).trans k_C_2
  replace f_C : ∀ o, wf.frozen? ⟨wb.heap.size, o, none⟩ = false := fun o => (hb.frozen (p := ⟨wb.heap.size, o, none⟩) hl_C).trans (f_C o)
  replace HX_C := Lib.hid (HX_C.out.below hb)
  replace HA1 := Lib.hid (HA1.out.below hb)
  replace HA2 := Lib.hid (HA2.out.below hb)
  replace HB1 := Lib.hid (HB1.out.below hb)
  replace HB2 := Lib.hid (HB2.out.below hb)
  replace HB := Lib.hid (HB.out.trans (hb.mono hs0))
  replace hN : N ≤ wf.heap.size := Nat.le_trans hN hb.size
  replace hs0 : w.heap.size ≤ wf.heap.size := Nat.le_trans hs0 hb.size
  replace hl_A : wa.heap.size < wf.heap.size := Nat.lt_of_lt_of_le hl_A hb.size
  replace hl_C : wb.heap.size < wf.heap.size := Nat.lt_of_lt_of_le hl_C hb.size
  clear hb
  have HC1 := Lib.hid hn
  clear hn
  have HC2 := Lib.hid hn'
  clear hn'
  go_wp2_with fail
  refine calls_name fun W6 hW => ?_
  have HL_W6 := Lib.hid (show Below wf.heap.size wf W6 by rw [← hW]; exact BlA)
  have hs_W6 : wf.heap.size ≤ W6.heap.size := by rw [← hW]; exact OmA
  have hd_A_D : wa.heap.size < wf.heap.size := by omega
  have hd_C_D : wb.heap.size < wf.heap.size := by omega
  have HK_W6 := Lib.hid (show Kp N wf W6 by rw [← hW]; exact KpA)
  replace k_A_0 : W6.cell? ⟨wa.heap.size, 0, none⟩ = some (.bool (decide ((m).num < 0))) := (HL_W6.out.cell (p := ⟨wa.heap.size, 0, none⟩) hl_A).trans k_A_0
  replace k_A_1 : W6.cell? ⟨wa.heap.size, 1, none⟩ = some (.slice ra (nlen (m).num.natAbs) ca) := (HL_W6.out.cell (p := ⟨wa.heap.size, 1, none⟩) hl_A).trans k_A_1
  replace k_A_2 : W6.cell? ⟨wa.heap.size, 2, none⟩ = some (.slice ra2 (nlen (m).den) ca2) := (HL_W6.out.cell (p := ⟨wa.heap.size, 2, none⟩) hl_A).trans k_A_2
  replace f_A : ∀ o, W6.frozen? ⟨wa.heap.size, o, none⟩ = false := fun o => (HL_W6.out.frozen (p := ⟨wa.heap.size, o, none⟩) hl_A).trans (f_A o)
  replace HX_A := Lib.hid (show Bn W6 (wa.heap.size) by rw [← hW]; exact KpA)
  replace k_C_0 : W6.cell? ⟨wb.heap.size, 0, none⟩ = some (.bool (decide ((m).num < 0))) := (HL_W6.out.cell (p := ⟨wb.heap.size, 0, none⟩) hl_C).trans k_C_0
  replace k_C_1 : W6.cell? ⟨wb.heap.size, 1, none⟩ = some (.slice rb (nlen (m).num.natAbs) cb) := (HL_W6.out.cell (p := ⟨wb.heap.size, 1, none⟩) hl_C).trans k_C_1
  replace k_C_2 : W6.cell? ⟨wb.heap.size, 2, none⟩ = some (.slice rb2 (nlen (m).den) cb2) := (HL_W6.out.cell (p := ⟨wb.heap.size, 2, none⟩) hl_C).trans k_C_2
  replace f_C : ∀ o, W6.frozen? ⟨wb.heap.size, o, none⟩ = false := fun o => (HL_W6.out.frozen (p := ⟨wb.heap.size, o, none⟩) hl_C).trans (f_C o)
  replace HX_C := Lib.hid (show Bn W6 (wb.heap.size) by rw [← hW]; exact KpA)
  have k_D_0 : W6.cell? ⟨wf.heap.size, 0, none⟩ = some (.bool (decide ((v).num < 0))) := by rw [← hW]; (first | (go_simp; done) | (simp; done) | (simp [go_sem]; done))
  have k_D_1 : W6.cell? ⟨wf.heap.size, 1, none⟩ = some (.slice rc (nlen (v).num.natAbs) cc) := by rw [← hW]; (first | (go_simp; done) | (simp; done) | (simp [go_sem]; done))
  have k_D_2 : W6.cell? ⟨wf.heap.size, 2, none⟩ = some (.slice rc2 (nlen (v).den) cc2) := by rw [← hW]; (first | (go_simp; done) | (simp; done) | (simp [go_sem]; done))
  have f_D : ∀ o, W6.frozen? ⟨wf.heap.size, o, none⟩ = false := by intro o; rw [← hW]; (first | (go_simp; done) | (simp; done) | (simp [go_sem]; done))
  have HX_D := Lib.hid (show Bn W6 (wf.heap.size) by rw [← hW]; exact KpA)
  replace HA1 := Lib.hid (HA1.out.keep HK_W6.out)
  replace HA2 := Lib.hid (HA2.out.keep HK_W6.out)
  replace HB1 := Lib.hid (HB1.out.keep HK_W6.out)
  replace HB2 := Lib.hid (HB2.out.keep HK_W6.out)
  replace HC1 := Lib.hid (HC1.out.keep HK_W6.out)
  replace HC2 := Lib.hid (HC2.out.keep HK_W6.out)
  replace HB := Lib.hid (show Below w.heap.size w W6 by rw [← hW]; exact BlA)
  replace hN : N ≤ W6.heap.size := by rw [← hW]; exact OmA
  replace hs0 : w.heap.size ≤ W6.heap.size := by rw [← hW]; exact OmA
  replace hl_A : wa.heap.size < W6.heap.size := by rw [← hW]; exact OmA
  replace hl_C : wb.heap.size < W6.heap.size := by rw [← hW]; exact OmA
  have hl_D : wf.heap.size < W6.heap.size := by rw [← hW]; exact OmA
  clear HL_W6
  clear hW HK_W6
  refine (xVariance_ok (N := N) _ _ _ q L _ hN (HA.out.below HB.out) hL HV.out v HS.out).mono ?_
  rintro e wg ⟨rd, cd, rd2, cd2, rfl, hn, hn', hb⟩
  have hs_wg : W6.heap.size ≤ wg.heap.size := hb.size
  replace k_A_0 : wg.cell? ⟨wa.heap.size, 0, none⟩ = some (.bool (decide ((m).num < 0))) := (hb.cell (p := ⟨wa.heap.size, 0, none⟩) hl_A).trans k_A_0
  replace k_A_1 : wg.cell? ⟨wa.heap.size, 1, none⟩ = some (.slice ra (nlen (m).num.natAbs) ca) := (hb.cell (p := ⟨wa.heap.size, 1, none⟩) hl_A).trans k_A_1
  replace k_A_2 : wg.cell? ⟨wa.heap.size, 2, none⟩ = some (.slice ra2 (nlen (m).den) ca2) := (hb.cell (p := ⟨wa.heap.size, 2, none⟩) hl_A).trans k_A_2
  replace f_A : ∀ o, wg.frozen? ⟨wa.heap.size, o, none⟩ = false := fun o => (hb.frozen (p := ⟨wa.heap.size, o, none⟩) hl_A).trans (f_A o)
  replace HX_A := Lib.hid (HX_A.out.below hb)
  replace k_C_0 : wg.cell? ⟨wb.heap.size, 0, none⟩ = some (.bool (decide ((m).num < 0))) := (hb.cell (p := ⟨wb.heap.size, 0, none⟩) hl_C).trans k_C_0
  replace k_C_1 : wg.cell? ⟨wb.heap.size, 1, none⟩ = some (.slice rb (nlen (m).num.natAbs) cb) := (hb.cell (p := ⟨wb.heap.size, 1, none⟩) hl_C).trans k_C_1
  replace k_C_2 : wg.cell? ⟨wb.heap.size, 2, none⟩ = some (.slice rb2 (nlen (m).den) cb2) := (hb.cell (p := ⟨wb.heap.size, 2, none⟩) hl_C).trans k_C_2
  replace f_C : ∀ o, wg.frozen? ⟨wb.heap.size, o, none⟩ = false := fun o => (hb.frozen (p := ⟨wb.heap.size, o, none⟩) hl_C).trans (f_C o)
  replace HX_C := Lib.hid (HX_C.out.below hb)
  replace k_D_0 : wg.cell? ⟨wf.heap.size, 0, none⟩ = some (.bool (decide ((v).num < 0))) := (hb.cell (p := ⟨wf.heap.size, 0, none⟩) hl_D).trans k_D_0
  replace k_D_1 : wg.cell? ⟨wf.heap.size, 1, none⟩ = some (.slice rc (nlen (v).num.natAbs) cc) := (hb.cell (p := ⟨wf.heap.size, 1, none⟩) hl_D).trans k_D_1
  replace k_D_2 : wg.cell? ⟨wf.heap.size, 2, none⟩ = some (.slice rc2 (nlen (v).den) cc2) := (hb.cell (p := ⟨wf.heap.size, 2, none⟩) hl_D).trans k_D_2
  replace f_D : ∀ o, wg.frozen? ⟨wf.heap.size, o, none⟩ = false := fun o => (hb.frozen (p := ⟨wf.heap.size, o, none⟩) hl_D).trans (f_D o)
  replace HX_D := Lib.hid (HX_D.out.below hb)
  replace HA1 := Lib.hid (HA1.out.below hb)
  replace HA2 := Lib.hid (HA2.out.below hb)
  replace HB1 := Lib.hid (HB1.out.below hb)
  replace HB2 := Lib.hid (HB2.out.below hb)
  replace HC1 := Lib.hid (HC1.out.below hb)
  replace HC2 := Lib.hid (HC2.out.below hb)
  replace HB := Lib.hid (HB.out.trans (hb.mono hs0))
  replace hN : N ≤ wg.heap.size := Nat.le_trans hN hb.size
  replace hs0 : w.heap.size ≤ wg.heap.size := Nat.le_trans hs0 hb.size
  replace hl_A : wa.heap.size < wg.heap.size := Nat.lt_of_lt_of_le hl_A hb.size
  replace hl_C : wb.heap.size < wg.heap.size := Nat.lt_of_lt_of_le hl_C hb.size
  replace hl_D : wf.heap.size < wg.heap.size := Nat.lt_of_lt_of_le hl_D hb.size
  clear hb
  have HD1 := Lib.hid hn
  clear hn
  have HD2 := Lib.hid hn'
  clear hn'
  go_wp2_with fail
  refine calls_name fun W7 hW => ?_
  have hs_W7 : wg.heap.size ≤ W7.heap.size := by rw [← hW]; exact OmA
  have HK_W7 := Lib.hid (show Kp N wg W7 by rw [← hW]; exact KpA)
  replace k_A_0 : W7.cell? ⟨wa.heap.size, 0, none⟩ = some (.bool (decide ((m).num < 0))) := by rw [← hW]; (first | with_reducible exact k_A_0 | (simp [go_sem, k_A_0]; done) | (simp [go_sem, k_A_0, hl_A]; done) | (go_simp; done))
  replace k_A_1 : W7.cell? ⟨wa.heap.size, 1, none⟩ = some (.slice ra (nlen (m).num.natAbs) ca) := by rw [← hW]; (first | with_reducible exact k_A_1 | (simp [go_sem, k_A_1]; done) | (simp [go_sem, k_A_1, hl_A]; done) | (go_simp; done))
  replace k_A_2 : W7.cell? ⟨wa.heap.size, 2, none⟩ = some (.slice ra2 (nlen (m).den) ca2) := by rw [← hW]; (first | with_reducible exact k_A_2 | (simp [go_sem, k_A_2]; done) | (simp [go_sem, k_A_2, hl_A]; done) | (go_simp; done))
  replace f_A : ∀ o, W7.frozen? ⟨wa.heap.size, o, none⟩ = false := by intro o; rw [← hW]; (first | with_reducible exact f_A o | (simp [go_sem, f_A]; done) | (simp [go_sem, f_A, hl_A]; done) | (go_simp; done))
  replace HX_A := Lib.hid (show Bn W7 (wa.heap.size) by rw [← hW]; exact KpA)
  replace k_C_0 : W7.cell? ⟨wb.heap.size, 0, none⟩ = some (.bool (decide ((v).num < 0))) := by rw [← hW]; (first | (go_simp; done) | (simp [go_sem, k_C_0]; done) | (simp [go_sem, k_C_0, k_C_1, k_C_2]; done))
  replace k_C_1 : W7.cell? ⟨wb.heap.size, 1, none⟩ = some (.slice rd (nlen (v).num.natAbs) cd) := by rw [← hW]; (first | (go_simp; done) | (simp [go_sem, k_C_1]; done) | (simp [go_sem, k_C_0, k_C_1, k_C_2]; done))
  replace k_C_2 : W7.cell? ⟨wb.heap.size, 2, none⟩ = some (.slice rd2 (nlen (v).den) cd2) := by rw [← hW]; (first | (go_simp; done) | (simp [go_sem, k_C_2]; done) | (simp [go_sem, k_C_0, k_C_1, k_C_2]; done))
  replace f_C : ∀ o, W7.frozen? ⟨wb.heap.size, o, none⟩ = false := by intro o; rw [← hW]; (first | with_reducible exact f_C o | (simp [go_sem, f_C]; done) | (simp [go_sem, f_C, hl_C]; done) | (go_simp; done))
  replace HX_C := Lib.hid (show Bn W7 (wb.heap.size) by rw [← hW]; exact KpA)
  replace k_D_0 : W7.cell? ⟨wf.heap.size, 0, none⟩ = some (.bool (decide ((v).num < 0))) := by rw [← hW]; (first | with_reducible exact k_D_0 | (simp [go_sem, k_D_0]; done) | (simp [go_sem, k_D_0, hl_D]; done) | (go_simp; done))
  replace k_D_1 : W7.cell? ⟨wf.heap.size, 1, none⟩ = some (.slice rc (nlen (v).num.natAbs) cc) := by rw [← hW]; (first | with_reducible exact k_D_1 | (simp [go_sem, k_D_1]; done) | (simp [go_sem, k_D_1, hl_D]; done) | (go_simp; done))
  replace k_D_2 : W7.cell? ⟨wf.heap.size, 2, none⟩ = some (.slice rc2 (nlen (v).den) cc2) := by rw [← hW]; (first | with_reducible exact k_D_2 | (simp [go_sem, k_D_2]; done) | (simp [go_sem, k_D_2, hl_D]; done) | (go_simp; done))
  replace f_D : ∀ o, W7.frozen? ⟨wf.heap.size, o, none⟩ = false := by intro o; rw [← hW]; (first | with_reducible exact f_D o | (simp [go_sem, f_D]; done) | (simp [go_sem, f_D, hl_D]; done) | (go_simp; done))
  replace HX_D := Lib.hid (show Bn W7 (wf.heap.size) by rw [← hW]; exact KpA)
  replace HA1 := Lib.hid (HA1.out.keep HK_W7.out)
  replace HA2 := Lib.hid (HA2.out.keep HK_W7.out)
  replace HB1 := Lib.hid (HB1.out.keep HK_W7.out)
  replace HB2 := Lib.hid (HB2.out.keep HK_W7.out)
  replace HC1 := Lib.hid (HC1.out.keep HK_W7.out)
  replace HC2 := Lib.hid (HC2.out.keep HK_W7.out)
  replace HD1 := Lib.hid (HD1.out.keep HK_W7.out)
  replace HD2 := Lib.hid (HD2.out.keep HK_W7.out)
  replace HB := Lib.hid (show Below w.heap.size w W7 by rw [← hW]; exact BlA)
  replace hN : N ≤ W7.heap.size := by rw [← hW]; exact OmA
  replace hs0 : w.heap.size ≤ W7.heap.size := by rw [← hW]; exact OmA
  replace hl_A : wa.heap.size < W7.heap.size := by rw [← hW]; exact OmA
  replace hl_C : wb.heap.size < W7.heap.size := by rw [← hW]; exact OmA
  replace hl_D : wf.heap.size < W7.heap.size := by rw [← hW]; exact OmA
  clear hW HK_W7
  refine (SameRatio_any (N := N) _ _ _ _ _ _ _ _ v.num.natAbs _ _ _ v.den _ hN HC1.out HD1.out HC2.out HD2.out).mono ?_
  rintro e wh ⟨rfl, hb⟩
  have hs_wh : W7.heap.size ≤ wh.heap.size := hb.size
  replace k_A_0 : wh.cell? ⟨wa.heap.size, 0, none⟩ = some (.bool (decide ((m).num < 0))) := (hb.cell (p := ⟨wa.heap.size, 0, none⟩) hl_A).trans k_A_0
  replace k_A_1 : wh.cell? ⟨wa.heap.size, 1, none⟩ = some (.slice ra (nlen (m).num.natAbs) ca) := (hb.cell (p := ⟨wa.heap.size, 1, none⟩) hl_A).trans k_A_1
  replace k_A_2 : wh.cell? ⟨wa.heap.size, 2, none⟩ = some (.slice ra2 (nlen (m).den) ca2) := (hb.cell (p := ⟨wa.heap.size, 2, none⟩) hl_A).trans k_A_2
  replace f_A : ∀ o, wh.frozen? ⟨wa.heap.size, o, none⟩ = false := fun o => (hb.frozen (p := ⟨wa.heap.size, o, none⟩) hl_A).trans (f_A o)
  replace HX_A := Lib.hid (HX_A.out.below hb)
  replace k_C_0 : wh.cell? ⟨wb.heap.size, 0, none⟩ = some (.bool (decide ((v).num < 0))) := (hb.cell (p := ⟨wb.heap.size, 0, none⟩) hl_C).trans k_C_0
  replace k_C_1 : wh.cell? ⟨wb.heap.size, 1, none⟩ = some (.slice rd (nlen (v).num.natAbs) cd) := (hb.cell (p := ⟨wb.heap.size, 1, none⟩) hl_C).trans k_C_1
  replace k_C_2 : wh.cell? ⟨wb.heap.size, 2, none⟩ = some (.slice rd2 (nlen (v).den) cd2) := (hb.cell (p := ⟨wb.heap.size, 2, none⟩) hl_C).trans k_C_2
  replace f_C : ∀ o, wh.frozen? ⟨wb.heap.size, o, none⟩ = false := fun o => (hb.frozen (p := ⟨wb.heap.size, o, none⟩) hl_C).trans (f_C o)
  replace HX_C := Lib.hid (HX_C.out.below hb)
  replace k_D_0 : wh.cell? ⟨wf.heap.size, 0, none⟩ = some (.bool (decide ((v).num < 0))) := (hb.cell (p := ⟨wf.heap.size, 0, none⟩) hl_D).trans k_D_0
  replace k_D_1 : wh.cell? ⟨wf.heap.size, 1, none⟩ = some (.slice rc (nlen (v).num.natAbs) cc) := (hb.cell (p := ⟨wf.heap.size, 1, none⟩) hl_D).trans k_D_1
  replace k_D_2 : wh.cell? ⟨wf.heap.size, 2, none⟩ = some (.slice rc2 (nlen (v).den) cc2) := (hb.cell (p := ⟨wf.heap.size, 2, none⟩) hl_D).trans k_D_2
  replace f_D : ∀ o, wh.frozen? ⟨wf.heap.size, o, none⟩ = false := fun o => (hb.frozen (p := ⟨wf.heap.size, o, none⟩) hl_D).trans (f_D o)
  replace HX_D := Lib.hid (HX_D.out.below hb)
  replace HA1 := Lib.hid (HA1.out.below hb)
  replace HA2 := Lib.hid (HA2.out.below hb)
  replace HB1 := Lib.hid (HB1.out.below hb)
  replace HB2 := Lib.hid (HB2.out.below hb)
  replace HC1 := Lib.hid (HC1.out.below hb)
  replace HC2 := Lib.hid (HC2.out.below hb)
  replace HD1 := Lib.hid (HD1.out.below hb)
  replace HD2 := Lib.hid (HD2.out.below hb)
  replace HB := Lib.hid (HB.out.trans (hb.mono hs0))
  replace hN : N ≤ wh.heap.size := Nat.le_trans hN hb.size
  replace hs0 : w.heap.size ≤ wh.heap.size := Nat.le_trans hs0 hb.size
  replace hl_A : wa.heap.size < wh.heap.size := Nat.lt_of_lt_of_le hl_A hb.size
  replace hl_C : wb.heap.size < wh.heap.size := Nat.lt_of_lt_of_le hl_C hb.size
  replace hl_D : wf.heap.size < wh.heap.size := Nat.lt_of_lt_of_le hl_D hb.size
  clear hb
  go_wp2_with fail
  refine calls_name fun W8 hW => ?_
  have HL_W8 := Lib.hid (show Below wh.heap.size wh W8 by rw [← hW]; exact BlA)
  have hs_W8 : wh.heap.size ≤ W8.heap.size := by rw [← hW]; exact OmA
  have HK_W8 := Lib.hid (show Kp N wh W8 by rw [← hW]; exact KpA)
  replace k_A_0 : W8.cell? ⟨wa.heap.size, 0, none⟩ = some (.bool (decide ((m).num < 0))) := (HL_W8.out.cell (p := ⟨wa.heap.size, 0, none⟩) hl_A).trans k_A_0
  replace k_A_1 : W8.cell? ⟨wa.heap.size, 1, none⟩ = some (.slice ra (nlen (m).num.natAbs) ca) := (HL_W8.out.cell (p := ⟨wa.heap.size, 1, none⟩) hl_A).trans k_A_1
  replace k_A_2 : W8.cell? ⟨wa.heap.size, 2, none⟩ = some (.slice ra2 (nlen (m).den) ca2) := (HL_W8.out.cell (p := ⟨wa.heap.size, 2, none⟩) hl_A).trans k_A_2
  replace f_A : ∀ o, W8.frozen? ⟨wa.heap.size, o, none⟩ = false := fun o => (HL_W8.out.frozen (p := ⟨wa.heap.size, o, none⟩) hl_A).trans (f_A o)
  replace HX_A := Lib.hid (show Bn W8 (wa.heap.size) by rw [← hW]; exact KpA)
  replace k_C_0 : W8.cell? ⟨wb.heap.size, 0, none⟩ = some (.bool (decide ((v).num < 0))) := (HL_W8.out.cell (p := ⟨wb.heap.size, 0, none⟩) hl_C).trans k_C_0
  replace k_C_1 : W8.cell? ⟨wb.heap.size, 1, none⟩ = some (.slice rd (nlen (v).num.natAbs) cd) := (HL_W8.out.cell (p := ⟨wb.heap.size, 1, none⟩) hl_C).trans k_C_1
  replace k_C_2 : W8.cell? ⟨wb.heap.size, 2, none⟩ = some (.slice rd2 (nlen (v).den) cd2) := (HL_W8.out.cell (p := ⟨wb.heap.size, 2, none⟩) hl_C).trans k_C_2
  replace f_C : ∀ o, W8.frozen? ⟨wb.heap.size, o, none⟩ = false := fun o => (HL_W8.out.frozen (p := ⟨wb.heap.size, o, none⟩) hl_C).trans (f_C o)
  replace HX_C := Lib.hid (show Bn W8 (wb.heap.size) by rw [← hW]; exact KpA)
  replace k_D_0 : W8.cell? ⟨wf.heap.size, 0, none⟩ = some (.bool (decide ((v).num < 0))) := (HL_W8.out.cell (p := ⟨wf.heap.size, 0, none⟩) hl_D).trans k_D_0
  replace k_D_1 : W8.cell? ⟨wf.heap.size, 1, none⟩ = some (.slice rc (nlen (v).num.natAbs) cc) := (HL_W8.out.cell (p := ⟨wf.heap.size, 1, none⟩) hl_D).trans k_D_1
  replace k_D_2 : W8.cell? ⟨wf.heap.size, 2, none⟩ = some (.slice rc2 (nlen (v).den) cc2) := (HL_W8.out.cell (p := ⟨wf.heap.size, 2, none⟩) hl_D).trans k_D_2
  replace f_D : ∀ o, W8.frozen? ⟨wf.heap.size, o, none⟩ = false := fun o => (HL_W8.out.frozen (p := ⟨wf.heap.size, o, none⟩) hl_D).trans (f_D o)
  replace HX_D := Lib.hid (show Bn W8 (wf.heap.size) by rw [← hW]; exact KpA)
  replace HA1 := Lib.hid (HA1.out.keep HK_W8.out)
  replace HA2 := Lib.hid (HA2.out.keep HK_W8.out)
  replace HB1 := Lib.hid (HB1.out.keep HK_W8.out)
  replace HB2 := Lib.hid (HB2.out.keep HK_W8.out)
  replace HC1 := Lib.hid (HC1.out.keep HK_W8.out)
  replace HC2 := Lib.hid (HC2.out.keep HK_W8.out)
  replace HD1 := Lib.hid (HD1.out.keep HK_W8.out)
  replace HD2 := Lib.hid (HD2.out.keep HK_W8.out)
  replace HB := Lib.hid (show Below w.heap.size w W8 by rw [← hW]; exact BlA)
  replace hN : N ≤ W8.heap.size := by rw [← hW]; exact OmA
  replace hs0 : w.heap.size ≤ W8.heap.size := by rw [← hW]; exact OmA
  replace hl_A : wa.heap.size < W8.heap.size := by rw [← hW]; exact OmA
  replace hl_C : wb.heap.size < W8.heap.size := by rw [← hW]; exact OmA
  replace hl_D : wf.heap.size < W8.heap.size := by rw [← hW]; exact OmA
  clear HL_W8
  clear hW HK_W8
  refine (awake_any (N := N) _ hN (HT.out.below HB.out)).mono ?_
  rintro e wi ⟨rfl, hb⟩
  have hs_wi : W8.heap.size ≤ wi.heap.size := hb.size
  replace k_A_0 : wi.cell? ⟨wa.heap.size, 0, none⟩ = some (.bool (decide ((m).num < 0))) := (hb.cell (p := ⟨wa.heap.size, 0, none⟩) hl_A).trans k_A_0
  replace k_A_1 : wi.cell? ⟨wa.heap.size, 1, none⟩ = some (.slice ra (nlen (m).num.natAbs) ca) := (hb.cell (p := ⟨wa.heap.size, 1, none⟩) hl_A).trans k_A_1
  replace k_A_2 : wi.cell? ⟨wa.heap.size, 2, none⟩ = some (.slice ra2 (nlen (m).den) ca2) := (hb.cell (p := ⟨wa.heap.size, 2, none⟩) hl_A).trans k_A_2
  replace f_A : ∀ o, wi.frozen? ⟨wa.heap.size, o, none⟩ = false := fun o => (hb.frozen (p := ⟨wa.heap.size, o, none⟩) hl_A).trans (f_A o)
  replace HX_A := Lib.hid (HX_A.out.below hb)
  replace k_C_0 : wi.cell? ⟨wb.heap.size, 0, none⟩ = some (.bool (decide ((v).num < 0))) := (hb.cell (p := ⟨wb.heap.size, 0, none⟩) hl_C).trans k_C_0
  replace k_C_1 : wi.cell? ⟨wb.heap.size, 1, none⟩ = some (.slice rd (nlen (v).num.natAbs) cd) := (hb.cell (p := ⟨wb.heap.size, 1, none⟩) hl_C).trans k_C_1
  replace k_C_2 : wi.cell? ⟨wb.heap.size, 2, none⟩ = some (.slice rd2 (nlen (v).den) cd2) := (hb.cell (p := ⟨wb.heap.size, 2, none⟩) hl_C).trans k_C_2
  replace f_C : ∀ o, wi.frozen? ⟨wb.heap.size, o, none⟩ = false := fun o => (hb.frozen (p := ⟨wb.heap.size, o, none⟩) hl_C).trans (f_C o)
  replace HX_C := Lib.hid (HX_C.out.below hb)
  replace k_D_0 : wi.cell? ⟨wf.heap.size, 0, none⟩ = some (.bool (decide ((v).num < 0))) := (hb.cell (p := ⟨wf.heap.size, 0, none⟩) hl_D).trans k_D_0
  replace k_D_1 : wi.cell? ⟨wf.heap.size, 1, none⟩ = some (.slice rc (nlen (v).num.natAbs) cc) := (hb.cell (p := ⟨wf.heap.size, 1, none⟩) hl_D).trans k_D_1
  replace k_D_2 : wi.cell? ⟨wf.heap.size, 2, none⟩ = some (.slice rc2 (nlen (v).den) cc2) := (hb.cell (p := ⟨wf.heap.size, 2, none⟩) hl_D).trans k_D_2
  replace f_D : ∀ o, wi.frozen? ⟨wf.heap.size, o, none⟩ = false := fun o => (hb.frozen (p := ⟨wf.heap.size, o, none⟩) hl_D).trans (f_D o)
  replace HX_D := Lib.hid (HX_D.out.below hb)
  replace HA1 := Lib.hid (HA1.out.below hb)
  replace HA2 := Lib.hid (HA2.out.below hb)
  replace HB1 := Lib.hid (HB1.out.below hb)
  replace HB2 := Lib.hid (HB2.out.below hb)
  replace HC1 := Lib.hid (HC1.out.below hb)
  replace HC2 := Lib.hid (HC2.out.below hb)
  replace HD1 := Lib.hid (HD1.out.below hb)
  replace HD2 := Lib.hid (HD2.out.below hb)
  replace HB := Lib.hid (HB.out.trans (hb.mono hs0))
  replace hN : N ≤ wi.heap.size := Nat.le_trans hN hb.size
  replace hs0 : w.heap.size ≤ wi.heap.size := Nat.le_trans hs0 hb.size
  replace hl_A : wa.heap.size < wi.heap.size := Nat.lt_of_lt_of_le hl_A hb.size
  replace hl_C : wb.heap.size < wi.heap.size := Nat.lt_of_lt_of_le hl_C hb.size
  replace hl_D : wf.heap.size < wi.heap.size := Nat.lt_of_lt_of_le hl_D hb.size
  clear hb
  go_wp2_with fail
  go_ret
  exact ⟨rfl, HB.out⟩

theorem mom_any {N : Nat} (a : Option Addr) (n cap : Nat) (q : Nat → Rat) (L : Nat) (w : World) (hN : N ≤ w.heap.size) (h : Rs N w a n cap q L) (hL : L ≤ 2097152) (htab : TabW w) : Calls Tryz.prog 3 #[.slice a n cap] w fun e w' => e = .returned (.bool true) ∧ Below w.heap.size w w' := by
  cases hv : valid q n
  · exact mom_no a n cap q L w hN h hL htab hv
  · exact mom_yes a n cap q L w hN h hL htab hv

end Go.Proofs.YtbjgnpgachdlaaaGreatDoor
