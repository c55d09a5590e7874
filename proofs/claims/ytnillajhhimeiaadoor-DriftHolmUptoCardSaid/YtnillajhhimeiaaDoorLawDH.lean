/- DriftHolm returns true: the walk. No condition but the numbers' size, and that the table of powers of ten lies in memory. -/
import Derived.Test.YtnillajhhimeiaaDoorJoI
namespace Go.Proofs.YtnillajhhimeiaaDoor
open Go.RowKit

set_option maxHeartbeats 4000000 in
theorem dholm_bad {N : Nat} (a : Option Addr) (n cap : Nat) (q : Nat → Rat) (s2 : Bool) (a2 d2 : Option Addr) (na2 ca2 nd2 cd2 L : Nat) (al : Rat) (w : World) (hN : N ≤ w.heap.size) (h : Rs N w a n cap q L) (h2 : Rt N w s2 a2 na2 ca2 d2 nd2 cd2 al L) (hL : L ≤ 2097152) (htab : TabW w) (c : Int) (hc : chkC q n al = c) (h0 : c ≠ 0) :
    Calls Tryd.prog 4 #[.slice a n cap, .agg #[.bool s2, .slice a2 na2 ca2, .slice d2 nd2 cd2]] w fun e w' => e = .returned (.bool true) ∧ Below w.heap.size w w' := by
  have HC := Lib.hid hc
  have z0 : (c == 0) = false := by simpa using h0
  clear hc
  have HA := Lib.hid h
  have HAA := Lib.hid h2
  have HT := Lib.hid htab
  have bc := h.1
  have bm := h.2.1
  unfold maxLen at bm
  clear h h2 htab
  have hN0 := hN
  have HB := Lib.hid (Below.refl w.heap.size w)
  go_enter Tryd.func4, Tryd.ntmps4
  go_wp2_with fail
  refine calls_name fun W0 hW => ?_
  have hs_W0 : w.heap.size ≤ W0.heap.size := by rw [← hW]; (first | omega | (simp; done) | (simp; omega))
  have HL_W0 := Lib.hid (show Below w.heap.size w W0 by rw [← hW]; exact BlA)
  have k_A_0 : W0.cell? ⟨w.heap.size, 0, none⟩ = some (.bool s2) := by rw [← hW]; (first | (go_simp; done) | (simp; done) | (simp [go_sem]; done) | (simp [go_sem]; done))
  have k_A_1 : W0.cell? ⟨w.heap.size, 1, none⟩ = some (.slice a2 na2 ca2) := by rw [← hW]; (first | (go_simp; done) | (simp; done) | (simp [go_sem]; done) | (simp [go_sem]; done))
  have k_A_2 : W0.cell? ⟨w.heap.size, 2, none⟩ = some (.slice d2 nd2 cd2) := by rw [← hW]; (first | (go_simp; done) | (simp; done) | (simp [go_sem]; done) | (simp [go_sem]; done))
  have f_A : ∀ o, W0.frozen? ⟨w.heap.size, o, none⟩ = false := by intro o; rw [← hW]; (first | (go_simp; done) | (simp; done) | (simp [go_sem]; done) | (simp [go_sem]; done))
  have HX_A := Lib.hid (show Bn W0 (w.heap.size) by rw [← hW]; exact KpA)
  replace HB := Lib.hid (show Below w.heap.size w W0 by rw [← hW]; exact BlA)
  replace hN : N ≤ W0.heap.size := by rw [← hW]; (first | omega | (simp; done) | (simp; omega))
  have hs0 : w.heap.size ≤ W0.heap.size := by rw [← hW]; (first | omega | (simp; done) | (simp; omega))
  have hl_A : w.heap.size < W0.heap.size := by rw [← hW]; (first | omega | (simp; done) | (simp; omega))
  replace HA := Lib.hid (HA.out.below HL_W0.out)
  replace HAA := Lib.hid (HAA.out.below HL_W0.out)
  replace HT := Lib.hid (HT.out.below HL_W0.out)
  clear HL_W0
  clear hW
  refine (bonf_bad (N := N) _ n _ q _ _ _ _ _ _ _ L al _ hN HA.out HAA.out hL c HC.out h0).mono ?_
  rintro e wa ⟨rfl, hb⟩
  have hs_wa : W0.heap.size ≤ wa.heap.size := hb.size
  replace k_A_0 : wa.cell? ⟨w.heap.size, 0, none⟩ = some (.bool s2) := (hb.cell (p := ⟨w.heap.size, 0, none⟩) hl_A).trans k_A_0
  replace k_A_1 : wa.cell? ⟨w.heap.size, 1, none⟩ = some (.slice a2 na2 ca2) := (hb.cell (p := ⟨w.heap.size, 1, none⟩) hl_A).trans k_A_1
  replace k_A_2 : wa.cell? ⟨w.heap.size, 2, none⟩ = some (.slice d2 nd2 cd2) := (hb.cell (p := ⟨w.heap.size, 2, none⟩) hl_A).trans k_A_2
  replace f_A : ∀ o, wa.frozen? ⟨w.heap.size, o, none⟩ = false := fun o => (hb.frozen (p := ⟨w.heap.size, o, none⟩) hl_A).trans (f_A o)
  replace HX_A := Lib.hid (HX_A.out.below hb)
  replace HB := Lib.hid (HB.out.trans (hb.mono hs0))
  replace hN : N ≤ wa.heap.size := Nat.le_trans hN hb.size
  replace hs0 : w.heap.size ≤ wa.heap.size := Nat.le_trans hs0 hb.size
  replace hl_A : w.heap.size < wa.heap.size := Nat.lt_of_lt_of_le hl_A hb.size
  replace HA := Lib.hid (HA.out.below hb)
  replace HAA := Lib.hid (HAA.out.below hb)
  replace HT := Lib.hid (HT.out.below hb)
  clear hb
  go_wp2_with fail
  refine calls_name fun W1 hW => ?_
  have HL_W1 := Lib.hid (show Below wa.heap.size wa W1 by rw [← hW]; exact BlA)
  have hs_W1 : wa.heap.size ≤ W1.heap.size := by rw [← hW]; (first | omega | (simp; done) | (simp; omega))
  replace k_A_0 : W1.cell? ⟨w.heap.size, 0, none⟩ = some (.bool s2) := (HL_W1.out.cell (p := ⟨w.heap.size, 0, none⟩) hl_A).trans k_A_0
  replace k_A_1 : W1.cell? ⟨w.heap.size, 1, none⟩ = some (.slice a2 na2 ca2) := (HL_W1.out.cell (p := ⟨w.heap.size, 1, none⟩) hl_A).trans k_A_1
  replace k_A_2 : W1.cell? ⟨w.heap.size, 2, none⟩ = some (.slice d2 nd2 cd2) := (HL_W1.out.cell (p := ⟨w.heap.size, 2, none⟩) hl_A).trans k_A_2
  replace f_A : ∀ o, W1.frozen? ⟨w.heap.size, o, none⟩ = false := fun o => (HL_W1.out.frozen (p := ⟨w.heap.size, o, none⟩) hl_A).trans (f_A o)
  replace HX_A := Lib.hid (show Bn W1 (w.heap.size) by rw [← hW]; exact KpA)
  replace HB := Lib.hid (show Below w.heap.size w W1 by rw [← hW]; exact BlA)
  replace hN : N ≤ W1.heap.size := by rw [← hW]; (first | omega | (simp; done) | (simp; omega))
  replace hs0 : w.heap.size ≤ W1.heap.size := by rw [← hW]; (first | omega | (simp; done) | (simp; omega))
  replace hl_A : w.heap.size < W1.heap.size := by rw [← hW]; (first | omega | (simp; done) | (simp; omega))
  replace HA := Lib.hid (HA.out.below HL_W1.out)
  replace HAA := Lib.hid (HAA.out.below HL_W1.out)
  replace HT := Lib.hid (HT.out.below HL_W1.out)
  clear HL_W1
  clear hW
  refine (holm_bad (N := N) _ n _ q _ _ _ _ _ _ _ L al _ hN HA.out HAA.out hL c HC.out h0).mono ?_
  rintro e wb ⟨rfl, hb⟩
  have hs_wb : W1.heap.size ≤ wb.heap.size := hb.size
  replace k_A_0 : wb.cell? ⟨w.heap.size, 0, none⟩ = some (.bool s2) := (hb.cell (p := ⟨w.heap.size, 0, none⟩) hl_A).trans k_A_0
  replace k_A_1 : wb.cell? ⟨w.heap.size, 1, none⟩ = some (.slice a2 na2 ca2) := (hb.cell (p := ⟨w.heap.size, 1, none⟩) hl_A).trans k_A_1
  replace k_A_2 : wb.cell? ⟨w.heap.size, 2, none⟩ = some (.slice d2 nd2 cd2) := (hb.cell (p := ⟨w.heap.size, 2, none⟩) hl_A).trans k_A_2
  replace f_A : ∀ o, wb.frozen? ⟨w.heap.size, o, none⟩ = false := fun o => (hb.frozen (p := ⟨w.heap.size, o, none⟩) hl_A).trans (f_A o)
  replace HX_A := Lib.hid (HX_A.out.below hb)
  replace HB := Lib.hid (HB.out.trans (hb.mono hs0))
  replace hN : N ≤ wb.heap.size := Nat.le_trans hN hb.size
  replace hs0 : w.heap.size ≤ wb.heap.size := Nat.le_trans hs0 hb.size
  replace hl_A : w.heap.size < wb.heap.size := Nat.lt_of_lt_of_le hl_A hb.size
  replace HA := Lib.hid (HA.out.below hb)
  replace HAA := Lib.hid (HAA.out.below hb)
  replace HT := Lib.hid (HT.out.below hb)
  clear hb
  go_wp2_with fail
  refine calls_name fun W2 hW => ?_
  have HL_W2 := Lib.hid (show Below wb.heap.size wb W2 by rw [← hW]; exact BlA)
  have hs_W2 : wb.heap.size ≤ W2.heap.size := by rw [← hW]; (first | omega | (simp; done) | (simp; omega))
  replace k_A_0 : W2.cell? ⟨w.heap.size, 0, none⟩ = some (.bool s2) := (HL_W2.out.cell (p := ⟨w.heap.size, 0, none⟩) hl_A).trans k_A_0
  replace k_A_1 : W2.cell? ⟨w.heap.size, 1, none⟩ = some (.slice a2 na2 ca2) := (HL_W2.out.cell (p := ⟨w.heap.size, 1, none⟩) hl_A).trans k_A_1
  replace k_A_2 : W2.cell? ⟨w.heap.size, 2, none⟩ = some (.slice d2 nd2 cd2) := (HL_W2.out.cell (p := ⟨w.heap.size, 2, none⟩) hl_A).trans k_A_2
  replace f_A : ∀ o, W2.frozen? ⟨w.heap.size, o, none⟩ = false := fun o => (HL_W2.out.frozen (p := ⟨w.heap.size, o, none⟩) hl_A).trans (f_A o)
  replace HX_A := Lib.hid (show Bn W2 (w.heap.size) by rw [← hW]; exact KpA)
  replace HB := Lib.hid (show Below w.heap.size w W2 by rw [← hW]; exact BlA)
  replace hN : N ≤ W2.heap.size := by rw [← hW]; (first | omega | (simp; done) | (simp; omega))
  replace hs0 : w.heap.size ≤ W2.heap.size := by rw [← hW]; (first | omega | (simp; done) | (simp; omega))
  replace hl_A : w.heap.size < W2.heap.size := by rw [← hW]; (first | omega | (simp; done) | (simp; omega))
  replace HA := Lib.hid (HA.out.below HL_W2.out)
  replace HAA := Lib.hid (HAA.out.below HL_W2.out)
  replace HT := Lib.hid (HT.out.below HL_W2.out)
  clear HL_W2
  clear hW
  refine (dawake_any (N := N) _ hN HT.out).mono ?_
  rintro e wc ⟨rfl, hb⟩
  have hs_wc : W2.heap.size ≤ wc.heap.size := hb.size
  replace k_A_0 : wc.cell? ⟨w.heap.size, 0, none⟩ = some (.bool s2) := (hb.cell (p := ⟨w.heap.size, 0, none⟩) hl_A).trans k_A_0
  replace k_A_1 : wc.cell? ⟨w.heap.size, 1, none⟩ = some (.slice a2 na2 ca2) := (hb.cell (p := ⟨w.heap.size, 1, none⟩) hl_A).trans k_A_1
  replace k_A_2 : wc.cell? ⟨w.heap.size, 2, none⟩ = some (.slice d2 nd2 cd2) := (hb.cell (p := ⟨w.heap.size, 2, none⟩) hl_A).trans k_A_2
  replace f_A : ∀ o, wc.frozen? ⟨w.heap.size, o, none⟩ = false := fun o => (hb.frozen (p := ⟨w.heap.size, o, none⟩) hl_A).trans (f_A o)
  replace HX_A := Lib.hid (HX_A.out.below hb)
  replace HB := Lib.hid (HB.out.trans (hb.mono hs0))
  replace hN : N ≤ wc.heap.size := Nat.le_trans hN hb.size
  replace hs0 : w.heap.size ≤ wc.heap.size := Nat.le_trans hs0 hb.size
  replace hl_A : w.heap.size < wc.heap.size := Nat.lt_of_lt_of_le hl_A hb.size
  replace HA := Lib.hid (HA.out.below hb)
  replace HAA := Lib.hid (HAA.out.below hb)
  replace HT := Lib.hid (HT.out.below hb)
  clear hb
  go_wp2_with fail
  go_ret
  exact ⟨rfl, HB.out⟩

set_option maxHeartbeats 8000000 in
set_option maxRecDepth 100000 in
theorem dholm_ok {N : Nat} (a : Option Addr) (n cap : Nat) (q : Nat → Rat) (s2 : Bool) (a2 d2 : Option Addr) (na2 ca2 nd2 cd2 L : Nat) (al : Rat) (w : World) (hN : N ≤ w.heap.size) (h : Rs N w a n cap q L) (h2 : Rt N w s2 a2 na2 ca2 d2 nd2 cd2 al L) (hL : L ≤ 2097152) (htab : TabW w) (hc : chkC q n al = 0) :
    Calls Tryd.prog 4 #[.slice a n cap, .agg #[.bool s2, .slice a2 na2 ca2, .slice d2 nd2 cd2]] w fun e w' => e = .returned (.bool true) ∧ Below w.heap.size w w' := by
  have HC := Lib.hid hc
  obtain ⟨h60, hpr, _⟩ := chk_ok hc
  have HGE : Hid (∀ i, i < n → 0 ≤ q i) := Lib.hid (fun i hi => by have := hpr i hi; unfold prb at this; rw [decide_eq_true_eq] at this; exact this.1)
  clear hc hpr
  have HA := Lib.hid h
  have HAA := Lib.hid h2
  have HT := Lib.hid htab
  have bc := h.1
  have bm := h.2.1
  unfold maxLen at bm
  clear h h2 htab
  have hN0 := hN
  have HB := Lib.hid (Below.refl w.heap.size w)
  go_enter Tryd.func4, Tryd.ntmps4
  go_wp2_with fail
  refine calls_name fun W0 hW => ?_
  have hs_W0 : w.heap.size ≤ W0.heap.size := by rw [← hW]; (first | omega | (simp; done) | (simp; omega))
  have HL_W0 := Lib.hid (show Below w.heap.size w W0 by rw [← hW]; exact BlA)
  have k_A_0 : W0.cell? ⟨w.heap.size, 0, none⟩ = some (.bool s2) := by rw [← hW]; (first | (go_simp; done) | (simp; done) | (simp [go_sem]; done) | (simp [go_sem]; done))
  have k_A_1 : W0.cell? ⟨w.heap.size, 1, none⟩ = some (.slice a2 na2 ca2) := by rw [← hW]; (first | (go_simp; done) | (simp; done) | (simp [go_sem]; done) | (simp [go_sem]; done))
  have k_A_2 : W0.cell? ⟨w.heap.size, 2, none⟩ = some (.slice d2 nd2 cd2) := by rw [← hW]; (first | (go_simp; done) | (simp; done) | (simp [go_sem]; done) | (simp [go_sem]; done))
  have f_A : ∀ o, W0.frozen? ⟨w.heap.size, o, none⟩ = false := by intro o; rw [← hW]; (first | (go_simp; done) | (simp; done) | (simp [go_sem]; done) | (simp [go_sem]; done))
  have HX_A := Lib.hid (show Bn W0 (w.heap.size) by rw [← hW]; exact KpA)
  replace HB := Lib.hid (show Below w.heap.size w W0 by rw [← hW]; exact BlA)
  replace hN : N ≤ W0.heap.size := by rw [← hW]; (first | omega | (simp; done) | (simp; omega))
  have hs0 : w.heap.size ≤ W0.heap.size := by rw [← hW]; (first | omega | (simp; done) | (simp; omega))
  have hl_A : w.heap.size < W0.heap.size := by rw [← hW]; (first | omega | (simp; done) | (simp; omega))
  replace HA := Lib.hid (HA.out.below HL_W0.out)
  replace HAA := Lib.hid (HAA.out.below HL_W0.out)
  replace HT := Lib.hid (HT.out.below HL_W0.out)
  clear HL_W0
  clear hW
  refine (bonf_ok (N := N) _ n _ q _ _ _ _ _ _ _ L al _ hN HA.out HAA.out hL HC.out).mono ?_
  rintro e wa ⟨bb, rfl, bb1, bb2, hl, hb⟩
  have hs_wa : W0.heap.size ≤ wa.heap.size := hb.size
  replace k_A_0 : wa.cell? ⟨w.heap.size, 0, none⟩ = some (.bool s2) := (hb.cell (p := ⟨w.heap.size, 0, none⟩) hl_A).trans k_A_0
  replace k_A_1 : wa.cell? ⟨w.heap.size, 1, none⟩ = some (.slice a2 na2 ca2) := (hb.cell (p := ⟨w.heap.size, 1, none⟩) hl_A).trans k_A_1
  replace k_A_2 : wa.cell? ⟨w.heap.size, 2, none⟩ = some (.slice d2 nd2 cd2) := (hb.cell (p := ⟨w.heap.size, 2, none⟩) hl_A).trans k_A_2
  replace f_A : ∀ o, wa.frozen? ⟨w.heap.size, o, none⟩ = false := fun o => (hb.frozen (p := ⟨w.heap.size, o, none⟩) hl_A).trans (f_A o)
  replace HX_A := Lib.hid (HX_A.out.below hb)
  replace HB := Lib.hid (HB.out.trans (hb.mono hs0))
  replace hN : N ≤ wa.heap.size := Nat.le_trans hN hb.size
  replace hs0 : w.heap.size ≤ wa.heap.size := Nat.le_trans hs0 hb.size
  replace hl_A : w.heap.size < wa.heap.size := Nat.lt_of_lt_of_le hl_A hb.size
  replace HA := Lib.hid (HA.out.below hb)
  replace HAA := Lib.hid (HAA.out.below hb)
  replace HT := Lib.hid (HT.out.below hb)
  clear hb
  have HRB := Lib.hid (Rw.bs hl (by unfold maxLen; omega))
  clear hl
  go_wp2_with fail
  refine calls_name fun W1 hW => ?_
  have HL_W1 := Lib.hid (show Below wa.heap.size wa W1 by rw [← hW]; exact BlA)
  have hs_W1 : wa.heap.size ≤ W1.heap.size := by rw [← hW]; (first | omega | (simp; done) | (simp; omega))
  replace k_A_0 : W1.cell? ⟨w.heap.size, 0, none⟩ = some (.bool s2) := (HL_W1.out.cell (p := ⟨w.heap.size, 0, none⟩) hl_A).trans k_A_0
  replace k_A_1 : W1.cell? ⟨w.heap.size, 1, none⟩ = some (.slice a2 na2 ca2) := (HL_W1.out.cell (p := ⟨w.heap.size, 1, none⟩) hl_A).trans k_A_1
  replace k_A_2 : W1.cell? ⟨w.heap.size, 2, none⟩ = some (.slice d2 nd2 cd2) := (HL_W1.out.cell (p := ⟨w.heap.size, 2, none⟩) hl_A).trans k_A_2
  replace f_A : ∀ o, W1.frozen? ⟨w.heap.size, o, none⟩ = false := fun o => (HL_W1.out.frozen (p := ⟨w.heap.size, o, none⟩) hl_A).trans (f_A o)
  replace HX_A := Lib.hid (show Bn W1 (w.heap.size) by rw [← hW]; exact KpA)
  replace HB := Lib.hid (show Below w.heap.size w W1 by rw [← hW]; exact BlA)
  replace hN : N ≤ W1.heap.size := by rw [← hW]; (first | omega | (simp; done) | (simp; omega))
  replace hs0 : w.heap.size ≤ W1.heap.size := by rw [← hW]; (first | omega | (simp; done) | (simp; omega))
  replace hl_A : w.heap.size < W1.heap.size := by rw [← hW]; (first | omega | (simp; done) | (simp; omega))
  replace HA := Lib.hid (HA.out.below HL_W1.out)
  replace HAA := Lib.hid (HAA.out.below HL_W1.out)
  replace HT := Lib.hid (HT.out.below HL_W1.out)
  replace HRB := Lib.hid (HRB.out.below HL_W1.out)
  clear HL_W1
  clear hW
  refine (holm_ok (N := N) _ n _ q _ _ _ _ _ _ _ L al _ hN HA.out HAA.out hL HC.out).mono ?_
  rintro e wb ⟨bh, rfl, bh1, bh2, hl, hb⟩
  have hs_wb : W1.heap.size ≤ wb.heap.size := hb.size
  replace k_A_0 : wb.cell? ⟨w.heap.size, 0, none⟩ = some (.bool s2) := (hb.cell (p := ⟨w.heap.size, 0, none⟩) hl_A).trans k_A_0
  replace k_A_1 : wb.cell? ⟨w.heap.size, 1, none⟩ = some (.slice a2 na2 ca2) := (hb.cell (p := ⟨w.heap.size, 1, none⟩) hl_A).trans k_A_1
  replace k_A_2 : wb.cell? ⟨w.heap.size, 2, none⟩ = some (.slice d2 nd2 cd2) := (hb.cell (p := ⟨w.heap.size, 2, none⟩) hl_A).trans k_A_2
  replace f_A : ∀ o, wb.frozen? ⟨w.heap.size, o, none⟩ = false := fun o => (hb.frozen (p := ⟨w.heap.size, o, none⟩) hl_A).trans (f_A o)
  replace HX_A := Lib.hid (HX_A.out.below hb)
  replace HB := Lib.hid (HB.out.trans (hb.mono hs0))
  replace hN : N ≤ wb.heap.size := Nat.le_trans hN hb.size
  replace hs0 : w.heap.size ≤ wb.heap.size := Nat.le_trans hs0 hb.size
  replace hl_A : w.heap.size < wb.heap.size := Nat.lt_of_lt_of_le hl_A hb.size
  replace HA := Lib.hid (HA.out.below hb)
  replace HAA := Lib.hid (HAA.out.below hb)
  replace HT := Lib.hid (HT.out.below hb)
  replace HRB := Lib.hid (HRB.out.below hb)
  clear hb
  have HRH := Lib.hid (Rw.bs hl (by unfold maxLen; omega))
  clear hl
  clear hl_A f_A HX_A k_A_0 k_A_1 k_A_2
  clear HAA
  go_wp2_with fail
  go_loopw [9, 10] (fun i _ wr => ∃ j : Nat, j ≤ n ∧ i = .int .i64 j ∧ Below wb.heap.size wb wr) (fun i _ _ => n - (intOf i).toNat)
  case atStart => exact ⟨0, Nat.zero_le _, rfl, Below.refl _ _⟩
  case round =>
    obtain ⟨j, hj, rfl, hbel⟩ := hrel
    obtain ⟨w3, rfl⟩ : ∃ w3 : World, w3 = wr := ⟨_, rfl⟩
    have HBJ := Lib.hid hbel
    have hsj := hbel.size
    by_cases hjn : j < n
    · have HA' := Lib.hid (HA.out.below hbel)
      have HT' := Lib.hid (HT.out.below hbel)
      have HRB' := Lib.hid (HRB.out.below hbel)
      have HRH' := Lib.hid (HRH.out.below hbel)
      clear HA HT HRB HRH
      have HA := HA'
      have HT := HT'
      have HRB := HRB'
      have HRH := HRH'
      clear HA' HT' HRB' HRH'
      clear hbel
      obtain ⟨vb, hvb⟩ : ∃ v, bonQ q n al j = v := ⟨_, rfl⟩
      obtain ⟨vh, hvh⟩ : ∃ v, holQ q n al j = v := ⟨_, rfl⟩
      have HVB : Hid (vb = true → vh = true) := Lib.hid (fun e => by rw [← hvh]; exact bon_hol HGE.out (hvb.trans e))
      have HVH := Lib.hid hvh
      obtain ⟨b1, o1, e1, k1⟩ := HRB.out.2.2 (by omega)
      obtain ⟨b2, o2, e2, k2⟩ := HRH.out.2.2 (by omega)
      simp only [Option.some.injEq, Addr.mk.injEq, and_true] at e1 e2
      obtain ⟨rfl, rfl⟩ := e1
      obtain ⟨rfl, rfl⟩ := e2
      have c1 := k1 j hjn
      have c2 := k2 j hjn
      rw [hvb, Nat.zero_add] at c1
      rw [hvh, Nat.zero_add] at c2
      clear k1 k2 hvb hvh
      cases vb
      · go_wp2_with fail
        have C2 := Lib.hid c2
        clear c2
        go_loopw [10] (fun k wr => ∃ m : Nat, m ≤ n ∧ k = .int .i64 m ∧ Below w3.heap.size w3 wr) (fun k _ => n - (intOf k).toNat)
        case atStart => exact ⟨0, Nat.zero_le _, rfl, Below.refl _ _⟩
        case round =>
          obtain ⟨m, hm, rfl, hbel⟩ := hrel
          have HBM := Lib.hid hbel
          have hsm := hbel.size
          by_cases hmn : m < n
          · have c2 := cell_up C2.out hbel
            have c3 := HRH.out.below hbel
            obtain ⟨b2, o2, e2, k2⟩ := c3.2.2 (by omega)
            simp only [Option.some.injEq, Addr.mk.injEq, and_true] at e2
            obtain ⟨rfl, rfl⟩ := e2
            have c4 := k2 m hmn
            clear c3 k2
            obtain ⟨vk, hvk⟩ : ∃ v, holQ q n al m = v := ⟨_, rfl⟩
            rw [hvk, Nat.zero_add] at c4
            have HVK := Lib.hid hvk
            clear hvk
            have HAm := Lib.hid (HA.out.below hbel)
            clear hbel
            obtain ⟨b0, off, rfl, ho⟩ := HAm.out.2.2 (by omega)
            obtain ⟨sx, rx, rnx, rcx, dx, dnx, dcx, gx0, gx1, gx2, hxt⟩ := ho m hmn
            obtain ⟨sy, ry, rny, rcy, dy, dny, dcy, gy0, gy1, gy2, hyt⟩ := ho j hjn
            have HX := Lib.hid hxt
            have HY := Lib.hid hyt
            clear ho hxt hyt HAm
            have hjz : (j : Int) < (n : Int) := by omega
            have hmz : (m : Int) < (n : Int) := by omega
            cases vh
            · clear gx0 gx1 gx2 gy0 gy1 gy2
              go_wp2_with fail
              go_quiet (fail)
              go_wp2_with fail
              go_roundw
              case rel => exact ⟨m + 1, by omega, by go_num, below_drewN HBM.out _⟩
              case measure => simp [intOf]; omega
            · cases vk
              · obtain ⟨κ, hκ⟩ : ∃ κ, cmpQ (q m) (q j) = κ := ⟨_, rfl⟩
                have dk : decide (κ ≤ 0) = false := by
                  rw [← hκ, cmp_le]
                  refine decide_eq_false (fun hle => ?_)
                  have := hol_down HVH.out hle
                  rw [HVK.out] at this; cases this
                have HK := Lib.hid hκ
                clear hκ
                have hlh : bh < wr.heap.size := World.block_lt_of_cell? wr _ c2
                have hle : b0 < wr.heap.size := World.block_lt_of_cell? wr _ gx0
                have HB := HBM
                have hs0 : w3.heap.size ≤ wr.heap.size := hsm
                have hN : N ≤ wr.heap.size := by omega
                go_wp2_with fail
                go_region_held3 (fun w' => w'.cell? ⟨bh, j, none⟩ = some (.bool true) ∧ w'.cell? ⟨bh, m, none⟩ = some (.bool false) ∧ w'.cell? ⟨b0, off + m * 3, none⟩ = some (.bool sx) ∧ w'.cell? ⟨b0, off + m * 3 + 1, none⟩ = some (.slice rx rnx rcx) ∧ w'.cell? ⟨b0, off + m * 3 + 2, none⟩ = some (.slice dx dnx dcx) ∧ w'.cell? ⟨b0, off + j * 3, none⟩ = some (.bool sy) ∧ w'.cell? ⟨b0, off + j * 3 + 1, none⟩ = some (.slice ry rny rcy) ∧ w'.cell? ⟨b0, off + j * 3 + 2, none⟩ = some (.slice dy dny dcy))
                  (first | (go_keep; done) | ((try dsimp only); (repeat' apply And.intro) <;> (first | (go_keep; done) | (exact cell_keep_alloc_drew (by first | omega | (simp; omega)) (by first | assumption | go_simp)) | (exact cell_keep_alloc (by first | omega | (simp; omega)) (by first | assumption | go_simp)) | (rw [cell_set2 _ _ _ _ _ _ _ _ (by omega)]; assumption) | (rw [cell_set3 _ _ _ _ _ _ _ _ _ _ (by omega)]; assumption))))
                  (first
                    | (go_at_call 12; refine (rcmp_any (N := N) _ _ _ _ _ _ _ _ _ _ _ _ _ _ L L (q m) (q j) _ (by exact hN) (by exact HX.out) (by exact HY.out) (by omega) (by omega)).mono ?_; rw [HK.out]; rintro e wc ⟨rfl, hb⟩; replace hb : Below wr.heap.size wr wc := (by first | exact hb | exact bel_of_drew hb); have c2' : wc.cell? ⟨bh, j, none⟩ = some (.bool true) := (hb.cell (p := ⟨bh, j, none⟩) hlh).trans c2; have c4' : wc.cell? ⟨bh, m, none⟩ = some (.bool false) := (hb.cell (p := ⟨bh, m, none⟩) hlh).trans c4; have gx0' : wc.cell? ⟨b0, off + m * 3, none⟩ = some (.bool sx) := (hb.cell (p := ⟨b0, off + m * 3, none⟩) hle).trans gx0; have gx1' : wc.cell? ⟨b0, off + m * 3 + 1, none⟩ = some (.slice rx rnx rcx) := (hb.cell (p := ⟨b0, off + m * 3 + 1, none⟩) hle).trans gx1; have gx2' : wc.cell? ⟨b0, off + m * 3 + 2, none⟩ = some (.slice dx dnx dcx) := (hb.cell (p := ⟨b0, off + m * 3 + 2, none⟩) hle).trans gx2; have gy0' : wc.cell? ⟨b0, off + j * 3, none⟩ = some (.bool sy) := (hb.cell (p := ⟨b0, off + j * 3, none⟩) hle).trans gy0; have gy1' : wc.cell? ⟨b0, off + j * 3 + 1, none⟩ = some (.slice ry rny rcy) := (hb.cell (p := ⟨b0, off + j * 3 + 1, none⟩) hle).trans gy1; have gy2' : wc.cell? ⟨b0, off + j * 3 + 2, none⟩ = some (.slice dy dny dcy) := (hb.cell (p := ⟨b0, off + j * 3 + 2, none⟩) hle).trans gy2; have hs_wc : wr.heap.size ≤ wc.heap.size := hb.size; replace HX := Lib.hid (HX.out.below hb); replace HY := Lib.hid (HY.out.below hb); replace HB := Lib.hid (HB.out.trans (hb.mono hs0)); replace hN : N ≤ wc.heap.size := Nat.le_trans hN hb.size; replace hs0 : w3.heap.size ≤ wc.heap.size := Nat.le_trans hs0 hb.size; clear hb; skip))
                go_wp2_with fail
                go_roundw
                case rel => exact ⟨m + 1, by omega, by go_num, HB.out⟩
                case measure => simp [intOf]; omega
              · clear gx0 gx1 gx2 gy0 gy1 gy2
                go_wp2_with fail
                go_quiet (fail)
                go_wp2_with fail
                go_roundw
                case rel => exact ⟨m + 1, by omega, by go_num, below_drewN HBM.out _⟩
                case measure => simp [intOf]; omega
          · obtain rfl : n = m := by omega
            clear hbel
            go_wp2_with fail
            go_roundw
            case rel => exact ⟨j + 1, by omega, by go_num, HBJ.out.trans (HBM.out.mono (by omega))⟩
            case measure => simp [intOf]; omega
      · obtain rfl : vh = true := HVB.out rfl
        go_wp2_with fail
        have C2 := Lib.hid c2
        clear c2
        go_loopw [10] (fun k wr => ∃ m : Nat, m ≤ n ∧ k = .int .i64 m ∧ Below w3.heap.size w3 wr) (fun k _ => n - (intOf k).toNat)
        case atStart => exact ⟨0, Nat.zero_le _, rfl, Below.refl _ _⟩
        case round =>
          obtain ⟨m, hm, rfl, hbel⟩ := hrel
          have HBM := Lib.hid hbel
          have hsm := hbel.size
          by_cases hmn : m < n
          · have c2 := cell_up C2.out hbel
            have c3 := HRH.out.below hbel
            obtain ⟨b2, o2, e2, k2⟩ := c3.2.2 (by omega)
            simp only [Option.some.injEq, Addr.mk.injEq, and_true] at e2
            obtain ⟨rfl, rfl⟩ := e2
            have c4 := k2 m hmn
            clear c3 k2
            obtain ⟨vk, hvk⟩ : ∃ v, holQ q n al m = v := ⟨_, rfl⟩
            rw [hvk, Nat.zero_add] at c4
            have HVK := Lib.hid hvk
            clear hvk
            have HAm := Lib.hid (HA.out.below hbel)
            clear hbel
            obtain ⟨b0, off, rfl, ho⟩ := HAm.out.2.2 (by omega)
            obtain ⟨sx, rx, rnx, rcx, dx, dnx, dcx, gx0, gx1, gx2, hxt⟩ := ho m hmn
            obtain ⟨sy, ry, rny, rcy, dy, dny, dcy, gy0, gy1, gy2, hyt⟩ := ho j hjn
            have HX := Lib.hid hxt
            have HY := Lib.hid hyt
            clear ho hxt hyt HAm
            have hjz : (j : Int) < (n : Int) := by omega
            have hmz : (m : Int) < (n : Int) := by omega
            cases vk
            · obtain ⟨κ, hκ⟩ : ∃ κ, cmpQ (q m) (q j) = κ := ⟨_, rfl⟩
              have dk : decide (κ ≤ 0) = false := by
                rw [← hκ, cmp_le]
                refine decide_eq_false (fun hle => ?_)
                have := hol_down HVH.out hle
                rw [HVK.out] at this; cases this
              have HK := Lib.hid hκ
              clear hκ
              have hlh : bh < wr.heap.size := World.block_lt_of_cell? wr _ c2
              have hle : b0 < wr.heap.size := World.block_lt_of_cell? wr _ gx0
              have HB := HBM
              have hs0 : w3.heap.size ≤ wr.heap.size := hsm
              have hN : N ≤ wr.heap.size := by omega
              go_wp2_with fail
              go_region_held3 (fun w' => w'.cell? ⟨bh, j, none⟩ = some (.bool true) ∧ w'.cell? ⟨bh, m, none⟩ = some (.bool false) ∧ w'.cell? ⟨b0, off + m * 3, none⟩ = some (.bool sx) ∧ w'.cell? ⟨b0, off + m * 3 + 1, none⟩ = some (.slice rx rnx rcx) ∧ w'.cell? ⟨b0, off + m * 3 + 2, none⟩ = some (.slice dx dnx dcx) ∧ w'.cell? ⟨b0, off + j * 3, none⟩ = some (.bool sy) ∧ w'.cell? ⟨b0, off + j * 3 + 1, none⟩ = some (.slice ry rny rcy) ∧ w'.cell? ⟨b0, off + j * 3 + 2, none⟩ = some (.slice dy dny dcy))
                (first | (go_keep; done) | ((try dsimp only); (repeat' apply And.intro) <;> (first | (go_keep; done) | (exact cell_keep_alloc_drew (by first | omega | (simp; omega)) (by first | assumption | go_simp)) | (exact cell_keep_alloc (by first | omega | (simp; omega)) (by first | assumption | go_simp)) | (rw [cell_set2 _ _ _ _ _ _ _ _ (by omega)]; assumption) | (rw [cell_set3 _ _ _ _ _ _ _ _ _ _ (by omega)]; assumption))))
                (first
                  | (go_at_call 12; refine (rcmp_any (N := N) _ _ _ _ _ _ _ _ _ _ _ _ _ _ L L (q m) (q j) _ (by exact hN) (by exact HX.out) (by exact HY.out) (by omega) (by omega)).mono ?_; rw [HK.out]; rintro e wc ⟨rfl, hb⟩; replace hb : Below wr.heap.size wr wc := (by first | exact hb | exact bel_of_drew hb); have c2' : wc.cell? ⟨bh, j, none⟩ = some (.bool true) := (hb.cell (p := ⟨bh, j, none⟩) hlh).trans c2; have c4' : wc.cell? ⟨bh, m, none⟩ = some (.bool false) := (hb.cell (p := ⟨bh, m, none⟩) hlh).trans c4; have gx0' : wc.cell? ⟨b0, off + m * 3, none⟩ = some (.bool sx) := (hb.cell (p := ⟨b0, off + m * 3, none⟩) hle).trans gx0; have gx1' : wc.cell? ⟨b0, off + m * 3 + 1, none⟩ = some (.slice rx rnx rcx) := (hb.cell (p := ⟨b0, off + m * 3 + 1, none⟩) hle).trans gx1; have gx2' : wc.cell? ⟨b0, off + m * 3 + 2, none⟩ = some (.slice dx dnx dcx) := (hb.cell (p := ⟨b0, off + m * 3 + 2, none⟩) hle).trans gx2; have gy0' : wc.cell? ⟨b0, off + j * 3, none⟩ = some (.bool sy) := (hb.cell (p := ⟨b0, off + j * 3, none⟩) hle).trans gy0; have gy1' : wc.cell? ⟨b0, off + j * 3 + 1, none⟩ = some (.slice ry rny rcy) := (hb.cell (p := ⟨b0, off + j * 3 + 1, none⟩) hle).trans gy1; have gy2' : wc.cell? ⟨b0, off + j * 3 + 2, none⟩ = some (.slice dy dny dcy) := (hb.cell (p := ⟨b0, off + j * 3 + 2, none⟩) hle).trans gy2; have hs_wc : wr.heap.size ≤ wc.heap.size := hb.size; replace HX := Lib.hid (HX.out.below hb); replace HY := Lib.hid (HY.out.below hb); replace HB := Lib.hid (HB.out.trans (hb.mono hs0)); replace hN : N ≤ wc.heap.size := Nat.le_trans hN hb.size; replace hs0 : w3.heap.size ≤ wc.heap.size := Nat.le_trans hs0 hb.size; clear hb; skip))
              go_wp2_with fail
              go_roundw
              case rel => exact ⟨m + 1, by omega, by go_num, HB.out⟩
              case measure => simp [intOf]; omega
            · clear gx0 gx1 gx2 gy0 gy1 gy2
              go_wp2_with fail
              go_quiet (fail)
              go_wp2_with fail
              go_roundw
              case rel => exact ⟨m + 1, by omega, by go_num, below_drewN HBM.out _⟩
              case measure => simp [intOf]; omega
          · obtain rfl : n = m := by omega
            clear hbel
            go_wp2_with fail
            go_roundw
            case rel => exact ⟨j + 1, by omega, by go_num, HBJ.out.trans (HBM.out.mono (by omega))⟩
            case measure => simp [intOf]; omega
    · obtain rfl : n = j := by omega
      have HT' := Lib.hid (HT.out.below hbel)
      clear HT
      have HT := HT'
      clear HT'
      have HB' := Lib.hid (HB.out.trans (hbel.mono hs0))
      have hN' : N ≤ w3.heap.size := by omega
      have hs0' : w.heap.size ≤ w3.heap.size := by omega
      clear HB hN hs0 hbel
      have HB := HB'
      have hN := hN'
      have hs0 := hs0'
      clear HB' hN' hs0'
      go_wp2_with fail
      refine (dawake_any (N := N) _ hN HT.out).mono ?_
      rintro e wc ⟨rfl, hb⟩
      have hs_wc : w3.heap.size ≤ wc.heap.size := hb.size
      replace HB := Lib.hid (HB.out.trans (hb.mono hs0))
      replace hN : N ≤ wc.heap.size := Nat.le_trans hN hb.size
      replace hs0 : w.heap.size ≤ wc.heap.size := Nat.le_trans hs0 hb.size
      replace HT := Lib.hid (HT.out.below hb)
      clear hb
      go_wp2_with fail
      go_ret
      exact ⟨rfl, HB.out⟩

end Go.Proofs.YtnillajhhimeiaaDoor
