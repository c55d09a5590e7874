import Derived.Test.YtnillajhhimeiaaGreatDoorDrZ
namespace Go.Proofs.YtnillajhhimeiaaGreatDoor
open Go.RowKit
theorem Lz.none (w : World) : Lz w none 0 [] := ⟨Nat.le_refl _, Nat.zero_le _, fun h => by simp at h⟩
theorem xflags_is {N : Nat} (a : Option Addr) (n cap : Nat) (t : Nat → Nat → Int) (s2 : Bool) (a2 d2 : Option Addr) (na2 ca2 nd2 cd2 L : Nat) (al : Rat) (w : World) (hN : N ≤ w.heap.size) (h : Ts w a n cap t) (h2 : Rt N w s2 a2 na2 ca2 d2 nd2 cd2 al L) (hL : L ≤ 2097152) (hc : flgC t n al = 0) (l : List Nat) (hl : flt (holQ (fsh t) n al) n = l) (m : Nat) (hm : l.length = m) :
    Calls Tryz.prog 20 #[.slice a n cap, .agg #[.bool s2, .slice a2 na2 ca2, .slice d2 nd2 cd2]] w fun e w' => ∃ p cap, e = .returned (.tuple #[.slice p m cap, .int .i64 0]) ∧ Lz w' p cap l ∧ Below w.heap.size w w' := by
  subst hl hm
  exact xflags_ok a n cap t s2 a2 d2 na2 ca2 nd2 cd2 L al w hN h h2 hL hc
set_option maxHeartbeats 8000000 in
theorem dflg_ok {N : Nat} (a : Option Addr) (n cap : Nat) (t : Nat → Nat → Int) (s2 : Bool) (a2 d2 : Option Addr) (na2 ca2 nd2 cd2 L : Nat) (al : Rat) (w : World) (hN : N ≤ w.heap.size) (h : Ts w a n cap t) (h2 : Rt N w s2 a2 na2 ca2 d2 nd2 cd2 al L) (hL : L ≤ 2097152) (htab : TabW w) (hc : flgC t n al = 0) :
    Calls Tryz.prog 5 #[.slice a n cap, .agg #[.bool s2, .slice a2 na2 ca2, .slice d2 nd2 cd2]] w fun e w' => e = .returned (.bool true) ∧ Below w.heap.size w w' := by
  have HC := Lib.hid hc
  clear hc
  have HA := Lib.hid h
  have HAA := Lib.hid h2
  have HT := Lib.hid htab
  have bc := h.1
  have bm := h.2.1
  unfold maxLen at bm
  clear h h2 htab
  have hN0 := hN
  have HB := Lib.hid (Below.refl w.heap.size w)
  go_enter Tryz.func5, Tryz.ntmps5
  go_wp2_with fail
  refine calls_name fun W0 hW => ?_
  have hs_W0 : w.heap.size ≤ W0.heap.size := by rw [← hW]; (first | omega | (simp; done) | (simp; omega))
  have HL_W0 := Lib.hid (show Below w.heap.size w W0 by rw [← hW]; exact BlA)
  have k_A_0 : W0.cell? ⟨w.heap.size, 0, none⟩ = some (.bool s2) := by rw [← hW]; (first | (go_simp; done) | (simp; done) | (simp [go_sem]; done) | (simp [go_sem]; done))
  have k_A_1 : W0.cell? ⟨w.heap.size, 1, none⟩ = some (.slice a2 na2 ca2) := by rw [← hW]; (first | (go_simp; done) | (simp; done) | (simp [go_sem]; done) | (simp [go_sem]; done))
  have k_A_2 : W0.cell? ⟨w.heap.size, 2, none⟩ = some (.slice d2 nd2 cd2) := by rw [← hW]; (first | (go_simp; done) | (simp; done) | (simp [go_sem]; done) | (simp [go_sem]; done))
  have f_A : ∀ o, W0.frozen? ⟨w.heap.size, o, none⟩ = false := by intro o; rw [← hW]; (first | (go_simp; done) | (simp; done) | (simp [go_sem]; done) | (simp [go_sem]; done))
  have HX_A := Lib.hid (show Bn W0 (w.heap.size) by rw [← hW]; exact KpA)
  replace HB := Lib.hid (show Below w.heap.size w W0 by rw [← hW]; exact BlA)
  replace hN : N ≤ W0.heap.size := by rw [← hW]; (first | omega | (simp; done) | (simp; omega))
  have hs0 : w.heap.size ≤ W0.heap.size := by rw [← hW]; (first | omega | (simp; done) | (simp; omega))
  have hl_A : w.heap.size < W0.heap.size := by rw [← hW]; (first | omega | (simp; done) | (simp; omega))
  replace HA := Lib.hid (HA.out.below HL_W0.out)
  replace HAA := Lib.hid (HAA.out.below HL_W0.out)
  replace HT := Lib.hid (HT.out.below HL_W0.out)
  clear HL_W0
  clear hW
  obtain ⟨l, hl⟩ : ∃ l, flt (holQ (fsh t) n al) n = l := ⟨_, rfl⟩
  have HFL := Lib.hid hl
  clear hl
  obtain ⟨m, hm⟩ : ∃ m, l.length = m := ⟨_, rfl⟩
  have HM := Lib.hid hm
  clear hm
  refine (flags_is (N := N) _ n _ t _ _ _ _ _ _ _ L al _ hN HA.out HAA.out hL HC.out l HFL.out m HM.out).mono ?_
  rintro e wa ⟨p1, c1, rfl, hl, hb⟩
  have hs_wa : W0.heap.size ≤ wa.heap.size := hb.size
  replace k_A_0 : wa.cell? ⟨w.heap.size, 0, none⟩ = some (.bool s2) := (hb.cell (p := ⟨w.heap.size, 0, none⟩) hl_A).trans k_A_0
  replace k_A_1 : wa.cell? ⟨w.heap.size, 1, none⟩ = some (.slice a2 na2 ca2) := (hb.cell (p := ⟨w.heap.size, 1, none⟩) hl_A).trans k_A_1
  replace k_A_2 : wa.cell? ⟨w.heap.size, 2, none⟩ = some (.slice d2 nd2 cd2) := (hb.cell (p := ⟨w.heap.size, 2, none⟩) hl_A).trans k_A_2
  replace f_A : ∀ o, wa.frozen? ⟨w.heap.size, o, none⟩ = false := fun o => (hb.frozen (p := ⟨w.heap.size, o, none⟩) hl_A).trans (f_A o)
  replace HX_A := Lib.hid (HX_A.out.below hb)
  replace HB := Lib.hid (HB.out.trans (hb.mono hs0))
  replace hN : N ≤ wa.heap.size := Nat.le_trans hN hb.size
  replace hs0 : w.heap.size ≤ wa.heap.size := Nat.le_trans hs0 hb.size
  replace hl_A : w.heap.size < wa.heap.size := Nat.lt_of_lt_of_le hl_A hb.size
  replace HA := Lib.hid (HA.out.below hb)
  replace HAA := Lib.hid (HAA.out.below hb)
  replace HT := Lib.hid (HT.out.below hb)
  clear hb
  have HP := Lib.hid hl
  have hq1 := hl.1
  have hq2 := hl.2.1
  unfold maxLen at hq2
  rw [HM.out] at hq1
  clear hl
  go_wp2_with fail
  refine calls_name fun X0 hW => ?_
  have HL_X0 := Lib.hid (show Below wa.heap.size wa X0 by rw [← hW]; exact BlA)
  have hs_X0 : wa.heap.size ≤ X0.heap.size := by rw [← hW]; (first | omega | (simp; done) | (simp; omega))
  replace k_A_0 : X0.cell? ⟨w.heap.size, 0, none⟩ = some (.bool s2) := (HL_X0.out.cell (p := ⟨w.heap.size, 0, none⟩) hl_A).trans k_A_0
  replace k_A_1 : X0.cell? ⟨w.heap.size, 1, none⟩ = some (.slice a2 na2 ca2) := (HL_X0.out.cell (p := ⟨w.heap.size, 1, none⟩) hl_A).trans k_A_1
  replace k_A_2 : X0.cell? ⟨w.heap.size, 2, none⟩ = some (.slice d2 nd2 cd2) := (HL_X0.out.cell (p := ⟨w.heap.size, 2, none⟩) hl_A).trans k_A_2
  replace f_A : ∀ o, X0.frozen? ⟨w.heap.size, o, none⟩ = false := fun o => (HL_X0.out.frozen (p := ⟨w.heap.size, o, none⟩) hl_A).trans (f_A o)
  replace HX_A := Lib.hid (show Bn X0 (w.heap.size) by rw [← hW]; exact KpA)
  replace HB := Lib.hid (show Below w.heap.size w X0 by rw [← hW]; exact BlA)
  replace hN : N ≤ X0.heap.size := by rw [← hW]; (first | omega | (simp; done) | (simp; omega))
  replace hs0 : w.heap.size ≤ X0.heap.size := by rw [← hW]; (first | omega | (simp; done) | (simp; omega))
  replace hl_A : w.heap.size < X0.heap.size := by rw [← hW]; (first | omega | (simp; done) | (simp; omega))
  replace HA := Lib.hid (HA.out.below HL_X0.out)
  replace HAA := Lib.hid (HAA.out.below HL_X0.out)
  replace HT := Lib.hid (HT.out.below HL_X0.out)
  replace HP := Lib.hid (HP.out.below HL_X0.out)
  clear HL_X0
  clear hW
  refine (xflags_is (N := N) _ n _ t _ _ _ _ _ _ _ L al _ hN HA.out HAA.out hL HC.out l HFL.out m HM.out).mono ?_
  rintro e wb ⟨p2, c2, rfl, hl, hb⟩
  have hs_wb : X0.heap.size ≤ wb.heap.size := hb.size
  replace k_A_0 : wb.cell? ⟨w.heap.size, 0, none⟩ = some (.bool s2) := (hb.cell (p := ⟨w.heap.size, 0, none⟩) hl_A).trans k_A_0
  replace k_A_1 : wb.cell? ⟨w.heap.size, 1, none⟩ = some (.slice a2 na2 ca2) := (hb.cell (p := ⟨w.heap.size, 1, none⟩) hl_A).trans k_A_1
  replace k_A_2 : wb.cell? ⟨w.heap.size, 2, none⟩ = some (.slice d2 nd2 cd2) := (hb.cell (p := ⟨w.heap.size, 2, none⟩) hl_A).trans k_A_2
  replace f_A : ∀ o, wb.frozen? ⟨w.heap.size, o, none⟩ = false := fun o => (hb.frozen (p := ⟨w.heap.size, o, none⟩) hl_A).trans (f_A o)
  replace HX_A := Lib.hid (HX_A.out.below hb)
  replace HB := Lib.hid (HB.out.trans (hb.mono hs0))
  replace hN : N ≤ wb.heap.size := Nat.le_trans hN hb.size
  replace hs0 : w.heap.size ≤ wb.heap.size := Nat.le_trans hs0 hb.size
  replace hl_A : w.heap.size < wb.heap.size := Nat.lt_of_lt_of_le hl_A hb.size
  replace HA := Lib.hid (HA.out.below hb)
  replace HAA := Lib.hid (HAA.out.below hb)
  replace HT := Lib.hid (HT.out.below hb)
  replace HP := Lib.hid (HP.out.below hb)
  clear hb
  have HR := Lib.hid hl
  have hq3 := hl.1
  have hq4 := hl.2.1
  unfold maxLen at hq4
  rw [HM.out] at hq3
  clear hl
  go_wp2_with fail
  refine calls_name fun Y0 hW => ?_
  have HL_Y0 := Lib.hid (show Below wb.heap.size wb Y0 by rw [← hW]; exact BlA)
  have hs_Y0 : wb.heap.size ≤ Y0.heap.size := by rw [← hW]; (first | omega | (simp; done) | (simp; omega))
  replace k_A_0 : Y0.cell? ⟨w.heap.size, 0, none⟩ = some (.bool s2) := (HL_Y0.out.cell (p := ⟨w.heap.size, 0, none⟩) hl_A).trans k_A_0
  replace k_A_1 : Y0.cell? ⟨w.heap.size, 1, none⟩ = some (.slice a2 na2 ca2) := (HL_Y0.out.cell (p := ⟨w.heap.size, 1, none⟩) hl_A).trans k_A_1
  replace k_A_2 : Y0.cell? ⟨w.heap.size, 2, none⟩ = some (.slice d2 nd2 cd2) := (HL_Y0.out.cell (p := ⟨w.heap.size, 2, none⟩) hl_A).trans k_A_2
  replace f_A : ∀ o, Y0.frozen? ⟨w.heap.size, o, none⟩ = false := fun o => (HL_Y0.out.frozen (p := ⟨w.heap.size, o, none⟩) hl_A).trans (f_A o)
  replace HX_A := Lib.hid (show Bn Y0 (w.heap.size) by rw [← hW]; exact KpA)
  replace HB := Lib.hid (show Below w.heap.size w Y0 by rw [← hW]; exact BlA)
  replace hN : N ≤ Y0.heap.size := by rw [← hW]; (first | omega | (simp; done) | (simp; omega))
  replace hs0 : w.heap.size ≤ Y0.heap.size := by rw [← hW]; (first | omega | (simp; done) | (simp; omega))
  replace hl_A : w.heap.size < Y0.heap.size := by rw [← hW]; (first | omega | (simp; done) | (simp; omega))
  replace HA := Lib.hid (HA.out.below HL_Y0.out)
  replace HAA := Lib.hid (HAA.out.below HL_Y0.out)
  replace HT := Lib.hid (HT.out.below HL_Y0.out)
  replace HP := Lib.hid (HP.out.below HL_Y0.out)
  replace HR := Lib.hid (HR.out.below HL_Y0.out)
  clear HL_Y0
  clear hW
  refine (SameInts_len _ _ m _ _ l HM.out _ HP.out HR.out).mono ?_
  rintro e wc ⟨rfl, hb⟩
  have hs_wc : Y0.heap.size ≤ wc.heap.size := hb.size
  replace k_A_0 : wc.cell? ⟨w.heap.size, 0, none⟩ = some (.bool s2) := (hb.cell (p := ⟨w.heap.size, 0, none⟩) hl_A).trans k_A_0
  replace k_A_1 : wc.cell? ⟨w.heap.size, 1, none⟩ = some (.slice a2 na2 ca2) := (hb.cell (p := ⟨w.heap.size, 1, none⟩) hl_A).trans k_A_1
  replace k_A_2 : wc.cell? ⟨w.heap.size, 2, none⟩ = some (.slice d2 nd2 cd2) := (hb.cell (p := ⟨w.heap.size, 2, none⟩) hl_A).trans k_A_2
  replace f_A : ∀ o, wc.frozen? ⟨w.heap.size, o, none⟩ = false := fun o => (hb.frozen (p := ⟨w.heap.size, o, none⟩) hl_A).trans (f_A o)
  replace HX_A := Lib.hid (HX_A.out.below hb)
  replace HB := Lib.hid (HB.out.trans (hb.mono hs0))
  replace hN : N ≤ wc.heap.size := Nat.le_trans hN hb.size
  replace hs0 : w.heap.size ≤ wc.heap.size := Nat.le_trans hs0 hb.size
  replace hl_A : w.heap.size < wc.heap.size := Nat.lt_of_lt_of_le hl_A hb.size
  replace HA := Lib.hid (HA.out.below hb)
  replace HAA := Lib.hid (HAA.out.below hb)
  replace HT := Lib.hid (HT.out.below hb)
  replace HP := Lib.hid (HP.out.below hb)
  replace HR := Lib.hid (HR.out.below hb)
  clear hb
  clear HP
  clear HR
  go_wp2_with fail
  refine calls_name fun Z0 hW => ?_
  have HL_Z0 := Lib.hid (show Below wc.heap.size wc Z0 by rw [← hW]; exact BlA)
  have hs_Z0 : wc.heap.size ≤ Z0.heap.size := by rw [← hW]; (first | omega | (simp; done) | (simp; omega))
  replace k_A_0 : Z0.cell? ⟨w.heap.size, 0, none⟩ = some (.bool s2) := (HL_Z0.out.cell (p := ⟨w.heap.size, 0, none⟩) hl_A).trans k_A_0
  replace k_A_1 : Z0.cell? ⟨w.heap.size, 1, none⟩ = some (.slice a2 na2 ca2) := (HL_Z0.out.cell (p := ⟨w.heap.size, 1, none⟩) hl_A).trans k_A_1
  replace k_A_2 : Z0.cell? ⟨w.heap.size, 2, none⟩ = some (.slice d2 nd2 cd2) := (HL_Z0.out.cell (p := ⟨w.heap.size, 2, none⟩) hl_A).trans k_A_2
  replace f_A : ∀ o, Z0.frozen? ⟨w.heap.size, o, none⟩ = false := fun o => (HL_Z0.out.frozen (p := ⟨w.heap.size, o, none⟩) hl_A).trans (f_A o)
  replace HX_A := Lib.hid (show Bn Z0 (w.heap.size) by rw [← hW]; exact KpA)
  replace HB := Lib.hid (show Below w.heap.size w Z0 by rw [← hW]; exact BlA)
  replace hN : N ≤ Z0.heap.size := by rw [← hW]; (first | omega | (simp; done) | (simp; omega))
  replace hs0 : w.heap.size ≤ Z0.heap.size := by rw [← hW]; (first | omega | (simp; done) | (simp; omega))
  replace hl_A : w.heap.size < Z0.heap.size := by rw [← hW]; (first | omega | (simp; done) | (simp; omega))
  replace HA := Lib.hid (HA.out.below HL_Z0.out)
  replace HAA := Lib.hid (HAA.out.below HL_Z0.out)
  replace HT := Lib.hid (HT.out.below HL_Z0.out)
  clear HL_Z0
  clear hW
  refine (dawake_any (N := N) _ hN HT.out).mono ?_
  rintro e wz ⟨rfl, hb⟩
  have hs_wz : Z0.heap.size ≤ wz.heap.size := hb.size
  replace k_A_0 : wz.cell? ⟨w.heap.size, 0, none⟩ = some (.bool s2) := (hb.cell (p := ⟨w.heap.size, 0, none⟩) hl_A).trans k_A_0
  replace k_A_1 : wz.cell? ⟨w.heap.size, 1, none⟩ = some (.slice a2 na2 ca2) := (hb.cell (p := ⟨w.heap.size, 1, none⟩) hl_A).trans k_A_1
  replace k_A_2 : wz.cell? ⟨w.heap.size, 2, none⟩ = some (.slice d2 nd2 cd2) := (hb.cell (p := ⟨w.heap.size, 2, none⟩) hl_A).trans k_A_2
  replace f_A : ∀ o, wz.frozen? ⟨w.heap.size, o, none⟩ = false := fun o => (hb.frozen (p := ⟨w.heap.size, o, none⟩) hl_A).trans (f_A o)
  replace HX_A := Lib.hid (HX_A.out.below hb)
  replace HB := Lib.hid (HB.out.trans (hb.mono hs0))
  replace hN : N ≤ wz.heap.size := Nat.le_trans hN hb.size
  replace hs0 : w.heap.size ≤ wz.heap.size := Nat.le_trans hs0 hb.size
  replace hl_A : w.heap.size < wz.heap.size := Nat.lt_of_lt_of_le hl_A hb.size
  replace HA := Lib.hid (HA.out.below hb)
  replace HAA := Lib.hid (HAA.out.below hb)
  replace HT := Lib.hid (HT.out.below hb)
  clear hb
  go_wp2_with fail
  go_ret
  exact ⟨rfl, HB.out⟩
set_option maxHeartbeats 8000000 in
theorem dflg_bad {N : Nat} (a : Option Addr) (n cap : Nat) (t : Nat → Nat → Int) (s2 : Bool) (a2 d2 : Option Addr) (na2 ca2 nd2 cd2 L : Nat) (al : Rat) (w : World) (hN : N ≤ w.heap.size) (h : Ts w a n cap t) (h2 : Rt N w s2 a2 na2 ca2 d2 nd2 cd2 al L) (hL : L ≤ 2097152) (htab : TabW w) (c : Int) (hc : flgC t n al = c) (h0 : c ≠ 0) :
    Calls Tryz.prog 5 #[.slice a n cap, .agg #[.bool s2, .slice a2 na2 ca2, .slice d2 nd2 cd2]] w fun e w' => e = .returned (.bool true) ∧ Below w.heap.size w w' := by
  have HC := Lib.hid hc
  have z0 : (c == 0) = false := by simpa using h0
  clear hc
  have HA := Lib.hid h
  have HAA := Lib.hid h2
  have HT := Lib.hid htab
  have bc := h.1
  have bm := h.2.1
  unfold maxLen at bm
  clear h h2 htab
  have hN0 := hN
  have HB := Lib.hid (Below.refl w.heap.size w)
  go_enter Tryz.func5, Tryz.ntmps5
  go_wp2_with fail
  refine calls_name fun W0 hW => ?_
  have hs_W0 : w.heap.size ≤ W0.heap.size := by rw [← hW]; (first | omega | (simp; done) | (simp; omega))
  have HL_W0 := Lib.hid (show Below w.heap.size w W0 by rw [← hW]; exact BlA)
  have k_A_0 : W0.cell? ⟨w.heap.size, 0, none⟩ = some (.bool s2) := by rw [← hW]; (first | (go_simp; done) | (simp; done) | (simp [go_sem]; done) | (simp [go_sem]; done))
  have k_A_1 : W0.cell? ⟨w.heap.size, 1, none⟩ = some (.slice a2 na2 ca2) := by rw [← hW]; (first | (go_simp; done) | (simp; done) | (simp [go_sem]; done) | (simp [go_sem]; done))
  have k_A_2 : W0.cell? ⟨w.heap.size, 2, none⟩ = some (.slice d2 nd2 cd2) := by rw [← hW]; (first | (go_simp; done) | (simp; done) | (simp [go_sem]; done) | (simp [go_sem]; done))
  have f_A : ∀ o, W0.frozen? ⟨w.heap.size, o, none⟩ = false := by intro o; rw [← hW]; (first | (go_simp; done) | (simp; done) | (simp [go_sem]; done) | (simp [go_sem]; done))
  have HX_A := Lib.hid (show Bn W0 (w.heap.size) by rw [← hW]; exact KpA)
  replace HB := Lib.hid (show Below w.heap.size w W0 by rw [← hW]; exact BlA)
  replace hN : N ≤ W0.heap.size := by rw [← hW]; (first | omega | (simp; done) | (simp; omega))
  have hs0 : w.heap.size ≤ W0.heap.size := by rw [← hW]; (first | omega | (simp; done) | (simp; omega))
  have hl_A : w.heap.size < W0.heap.size := by rw [← hW]; (first | omega | (simp; done) | (simp; omega))
  replace HA := Lib.hid (HA.out.below HL_W0.out)
  replace HAA := Lib.hid (HAA.out.below HL_W0.out)
  replace HT := Lib.hid (HT.out.below HL_W0.out)
  clear HL_W0
  clear hW
  refine (flags_bad (N := N) _ n _ t _ _ _ _ _ _ _ L al _ hN HA.out HAA.out hL c HC.out h0).mono ?_
  rintro e wa ⟨rfl, hb⟩
  have hs_wa : W0.heap.size ≤ wa.heap.size := hb.size
  replace k_A_0 : wa.cell? ⟨w.heap.size, 0, none⟩ = some (.bool s2) := (hb.cell (p := ⟨w.heap.size, 0, none⟩) hl_A).trans k_A_0
  replace k_A_1 : wa.cell? ⟨w.heap.size, 1, none⟩ = some (.slice a2 na2 ca2) := (hb.cell (p := ⟨w.heap.size, 1, none⟩) hl_A).trans k_A_1
  replace k_A_2 : wa.cell? ⟨w.heap.size, 2, none⟩ = some (.slice d2 nd2 cd2) := (hb.cell (p := ⟨w.heap.size, 2, none⟩) hl_A).trans k_A_2
  replace f_A : ∀ o, wa.frozen? ⟨w.heap.size, o, none⟩ = false := fun o => (hb.frozen (p := ⟨w.heap.size, o, none⟩) hl_A).trans (f_A o)
  replace HX_A := Lib.hid (HX_A.out.below hb)
  replace HB := Lib.hid (HB.out.trans (hb.mono hs0))
  replace hN : N ≤ wa.heap.size := Nat.le_trans hN hb.size
  replace hs0 : w.heap.size ≤ wa.heap.size := Nat.le_trans hs0 hb.size
  replace hl_A : w.heap.size < wa.heap.size := Nat.lt_of_lt_of_le hl_A hb.size
  replace HA := Lib.hid (HA.out.below hb)
  replace HAA := Lib.hid (HAA.out.below hb)
  replace HT := Lib.hid (HT.out.below hb)
  clear hb
  go_wp2_with fail
  refine calls_name fun X0 hW => ?_
  have HL_X0 := Lib.hid (show Below wa.heap.size wa X0 by rw [← hW]; exact BlA)
  have hs_X0 : wa.heap.size ≤ X0.heap.size := by rw [← hW]; (first | omega | (simp; done) | (simp; omega))
  replace k_A_0 : X0.cell? ⟨w.heap.size, 0, none⟩ = some (.bool s2) := (HL_X0.out.cell (p := ⟨w.heap.size, 0, none⟩) hl_A).trans k_A_0
  replace k_A_1 : X0.cell? ⟨w.heap.size, 1, none⟩ = some (.slice a2 na2 ca2) := (HL_X0.out.cell (p := ⟨w.heap.size, 1, none⟩) hl_A).trans k_A_1
  replace k_A_2 : X0.cell? ⟨w.heap.size, 2, none⟩ = some (.slice d2 nd2 cd2) := (HL_X0.out.cell (p := ⟨w.heap.size, 2, none⟩) hl_A).trans k_A_2
  replace f_A : ∀ o, X0.frozen? ⟨w.heap.size, o, none⟩ = false := fun o => (HL_X0.out.frozen (p := ⟨w.heap.size, o, none⟩) hl_A).trans (f_A o)
  replace HX_A := Lib.hid (show Bn X0 (w.heap.size) by rw [← hW]; exact KpA)
  replace HB := Lib.hid (show Below w.heap.size w X0 by rw [← hW]; exact BlA)
  replace hN : N ≤ X0.heap.size := by rw [← hW]; (first | omega | (simp; done) | (simp; omega))
  replace hs0 : w.heap.size ≤ X0.heap.size := by rw [← hW]; (first | omega | (simp; done) | (simp; omega))
  replace hl_A : w.heap.size < X0.heap.size := by rw [← hW]; (first | omega | (simp; done) | (simp; omega))
  replace HA := Lib.hid (HA.out.below HL_X0.out)
  replace HAA := Lib.hid (HAA.out.below HL_X0.out)
  replace HT := Lib.hid (HT.out.below HL_X0.out)
  clear HL_X0
  clear hW
  refine (xflags_bad (N := N) _ n _ t _ _ _ _ _ _ _ L al _ hN HA.out HAA.out hL c HC.out h0).mono ?_
  rintro e wb ⟨rfl, hb⟩
  have hs_wb : X0.heap.size ≤ wb.heap.size := hb.size
  replace k_A_0 : wb.cell? ⟨w.heap.size, 0, none⟩ = some (.bool s2) := (hb.cell (p := ⟨w.heap.size, 0, none⟩) hl_A).trans k_A_0
  replace k_A_1 : wb.cell? ⟨w.heap.size, 1, none⟩ = some (.slice a2 na2 ca2) := (hb.cell (p := ⟨w.heap.size, 1, none⟩) hl_A).trans k_A_1
  replace k_A_2 : wb.cell? ⟨w.heap.size, 2, none⟩ = some (.slice d2 nd2 cd2) := (hb.cell (p := ⟨w.heap.size, 2, none⟩) hl_A).trans k_A_2
  replace f_A : ∀ o, wb.frozen? ⟨w.heap.size, o, none⟩ = false := fun o => (hb.frozen (p := ⟨w.heap.size, o, none⟩) hl_A).trans (f_A o)
  replace HX_A := Lib.hid (HX_A.out.below hb)
  replace HB := Lib.hid (HB.out.trans (hb.mono hs0))
  replace hN : N ≤ wb.heap.size := Nat.le_trans hN hb.size
  replace hs0 : w.heap.size ≤ wb.heap.size := Nat.le_trans hs0 hb.size
  replace hl_A : w.heap.size < wb.heap.size := Nat.lt_of_lt_of_le hl_A hb.size
  replace HA := Lib.hid (HA.out.below hb)
  replace HAA := Lib.hid (HAA.out.below hb)
  replace HT := Lib.hid (HT.out.below hb)
  clear hb
  go_wp2_with fail
  refine calls_name fun Y0 hW => ?_
  have HL_Y0 := Lib.hid (show Below wb.heap.size wb Y0 by rw [← hW]; exact BlA)
  have hs_Y0 : wb.heap.size ≤ Y0.heap.size := by rw [← hW]; (first | omega | (simp; done) | (simp; omega))
  replace k_A_0 : Y0.cell? ⟨w.heap.size, 0, none⟩ = some (.bool s2) := (HL_Y0.out.cell (p := ⟨w.heap.size, 0, none⟩) hl_A).trans k_A_0
  replace k_A_1 : Y0.cell? ⟨w.heap.size, 1, none⟩ = some (.slice a2 na2 ca2) := (HL_Y0.out.cell (p := ⟨w.heap.size, 1, none⟩) hl_A).trans k_A_1
  replace k_A_2 : Y0.cell? ⟨w.heap.size, 2, none⟩ = some (.slice d2 nd2 cd2) := (HL_Y0.out.cell (p := ⟨w.heap.size, 2, none⟩) hl_A).trans k_A_2
  replace f_A : ∀ o, Y0.frozen? ⟨w.heap.size, o, none⟩ = false := fun o => (HL_Y0.out.frozen (p := ⟨w.heap.size, o, none⟩) hl_A).trans (f_A o)
  replace HX_A := Lib.hid (show Bn Y0 (w.heap.size) by rw [← hW]; exact KpA)
  replace HB := Lib.hid (show Below w.heap.size w Y0 by rw [← hW]; exact BlA)
  replace hN : N ≤ Y0.heap.size := by rw [← hW]; (first | omega | (simp; done) | (simp; omega))
  replace hs0 : w.heap.size ≤ Y0.heap.size := by rw [← hW]; (first | omega | (simp; done) | (simp; omega))
  replace hl_A : w.heap.size < Y0.heap.size := by rw [← hW]; (first | omega | (simp; done) | (simp; omega))
  replace HA := Lib.hid (HA.out.below HL_Y0.out)
  replace HAA := Lib.hid (HAA.out.below HL_Y0.out)
  replace HT := Lib.hid (HT.out.below HL_Y0.out)
  clear HL_Y0
  clear hW
  refine (SameInts_len _ _ 0 _ _ [] rfl _ (Lz.none _) (Lz.none _)).mono ?_
  rintro e wc ⟨rfl, hb⟩
  have hs_wc : Y0.heap.size ≤ wc.heap.size := hb.size
  replace k_A_0 : wc.cell? ⟨w.heap.size, 0, none⟩ = some (.bool s2) := (hb.cell (p := ⟨w.heap.size, 0, none⟩) hl_A).trans k_A_0
  replace k_A_1 : wc.cell? ⟨w.heap.size, 1, none⟩ = some (.slice a2 na2 ca2) := (hb.cell (p := ⟨w.heap.size, 1, none⟩) hl_A).trans k_A_1
  replace k_A_2 : wc.cell? ⟨w.heap.size, 2, none⟩ = some (.slice d2 nd2 cd2) := (hb.cell (p := ⟨w.heap.size, 2, none⟩) hl_A).trans k_A_2
  replace f_A : ∀ o, wc.frozen? ⟨w.heap.size, o, none⟩ = false := fun o => (hb.frozen (p := ⟨w.heap.size, o, none⟩) hl_A).trans (f_A o)
  replace HX_A := Lib.hid (HX_A.out.below hb)
  replace HB := Lib.hid (HB.out.trans (hb.mono hs0))
  replace hN : N ≤ wc.heap.size := Nat.le_trans hN hb.size
  replace hs0 : w.heap.size ≤ wc.heap.size := Nat.le_trans hs0 hb.size
  replace hl_A : w.heap.size < wc.heap.size := Nat.lt_of_lt_of_le hl_A hb.size
  replace HA := Lib.hid (HA.out.below hb)
  replace HAA := Lib.hid (HAA.out.below hb)
  replace HT := Lib.hid (HT.out.below hb)
  clear hb
  go_wp2_with fail
  refine calls_name fun Z0 hW => ?_
  have HL_Z0 := Lib.hid (show Below wc.heap.size wc Z0 by rw [← hW]; exact BlA)
  have hs_Z0 : wc.heap.size ≤ Z0.heap.size := by rw [← hW]; (first | omega | (simp; done) | (simp; omega))
  replace k_A_0 : Z0.cell? ⟨w.heap.size, 0, none⟩ = some (.bool s2) := (HL_Z0.out.cell (p := ⟨w.heap.size, 0, none⟩) hl_A).trans k_A_0
  replace k_A_1 : Z0.cell? ⟨w.heap.size, 1, none⟩ = some (.slice a2 na2 ca2) := (HL_Z0.out.cell (p := ⟨w.heap.size, 1, none⟩) hl_A).trans k_A_1
  replace k_A_2 : Z0.cell? ⟨w.heap.size, 2, none⟩ = some (.slice d2 nd2 cd2) := (HL_Z0.out.cell (p := ⟨w.heap.size, 2, none⟩) hl_A).trans k_A_2
  replace f_A : ∀ o, Z0.frozen? ⟨w.heap.size, o, none⟩ = false := fun o => (HL_Z0.out.frozen (p := ⟨w.heap.size, o, none⟩) hl_A).trans (f_A o)
  replace HX_A := Lib.hid (show Bn Z0 (w.heap.size) by rw [← hW]; exact KpA)
  replace HB := Lib.hid (show Below w.heap.size w Z0 by rw [← hW]; exact BlA)
  replace hN : N ≤ Z0.heap.size := by rw [← hW]; (first | omega | (simp; done) | (simp; omega))
  replace hs0 : w.heap.size ≤ Z0.heap.size := by rw [← hW]; (first | omega | (simp; done) | (simp; omega))
  replace hl_A : w.heap.size < Z0.heap.size := by rw [← hW]; (first | omega | (simp; done) | (simp; omega))
  replace HA := Lib.hid (HA.out.below HL_Z0.out)
  replace HAA := Lib.hid (HAA.out.below HL_Z0.out)
  replace HT := Lib.hid (HT.out.below HL_Z0.out)
  clear HL_Z0
  clear hW
  refine (dawake_any (N := N) _ hN HT.out).mono ?_
  rintro e wz ⟨rfl, hb⟩
  have hs_wz : Z0.heap.size ≤ wz.heap.size := hb.size
  replace k_A_0 : wz.cell? ⟨w.heap.size, 0, none⟩ = some (.bool s2) := (hb.cell (p := ⟨w.heap.size, 0, none⟩) hl_A).trans k_A_0
  replace k_A_1 : wz.cell? ⟨w.heap.size, 1, none⟩ = some (.slice a2 na2 ca2) := (hb.cell (p := ⟨w.heap.size, 1, none⟩) hl_A).trans k_A_1
  replace k_A_2 : wz.cell? ⟨w.heap.size, 2, none⟩ = some (.slice d2 nd2 cd2) := (hb.cell (p := ⟨w.heap.size, 2, none⟩) hl_A).trans k_A_2
  replace f_A : ∀ o, wz.frozen? ⟨w.heap.size, o, none⟩ = false := fun o => (hb.frozen (p := ⟨w.heap.size, o, none⟩) hl_A).trans (f_A o)
  replace HX_A := Lib.hid (HX_A.out.below hb)
  replace HB := Lib.hid (HB.out.trans (hb.mono hs0))
  replace hN : N ≤ wz.heap.size := Nat.le_trans hN hb.size
  replace hs0 : w.heap.size ≤ wz.heap.size := Nat.le_trans hs0 hb.size
  replace hl_A : w.heap.size < wz.heap.size := Nat.lt_of_lt_of_le hl_A hb.size
  replace HA := Lib.hid (HA.out.below hb)
  replace HAA := Lib.hid (HAA.out.below hb)
  replace HT := Lib.hid (HT.out.below hb)
  clear hb
  go_wp2_with fail
  go_ret
  exact ⟨rfl, HB.out⟩
end Go.Proofs.YtnillajhhimeiaaGreatDoor
