import Derived.Test.YtjobopafcgnljaaGreatAl
import Derived.Test.YtjobopafcgnljaaGreatMdB
import Derived.Test.YtjobopafcgnljaaGreatJoQ
namespace Go.Proofs.YtjobopafcgnljaaGreat
open Go.RowKit
theorem rowMd_zero {cats len : Nat} {z : Nat → Int} (h : rowMd cats len z = 0) : len = cats ∧ okW z len ∧ sumZ z len = 1000 := by
 unfold rowMd at h
 by_cases h1 : len ≠ cats
 ·rw [if_pos h1] at h; exact absurd h (by decide)
 ·rw [if_neg h1] at h
  by_cases h2 : ¬ okW z len
  ·rw [if_pos h2] at h; exact absurd h (by decide)
  ·rw [if_neg h2] at h
   by_cases h3 : sumZ z len ≠ 1000
   ·rw [if_pos h3] at h; exact absurd h (by decide)
   ·exact ⟨Classical.not_not.1 h1, Classical.not_not.1 h2, Classical.not_not.1 h3⟩
set_option maxHeartbeats 1000000 in
theorem mvalid1_any (a : Option Addr) (R cap : Nat) (ra : Nat → Option Addr) (rn rc : Nat → Nat) (z : Nat → Nat → Int) (w : World) (h : Rw w a R cap ra rn rc z) (v : Int) (hv : vldC R R rn z = v) :
  Calls Tryz.prog 21 #[.agg #[.slice a R cap]] w fun e w' => e = .returned (.int .i64 v) ∧ Below w.heap.size w w' := by
 have HA := Lib.hid h
 have bc := h.1
 have bm := h.2.1
 unfold maxLen at bm
 clear h
 have HVV := Lib.hid hv
 clear hv
 have HB := Lib.hid (Below.refl w.heap.size w)
 go_enter Tryz.func21, Tryz.ntmps21
 go_wp2_with fail
 refine calls_name fun W0 hW => ?_
 have hs_W0 : w.heap.size ≤ W0.heap.size := by rw [← hW]; exact OmT
 have HL_W0 := Lib.hid (show Below w.heap.size w W0 by rw [← hW]; exact BlA)
 replace HB := Lib.hid (show Below w.heap.size w W0 by rw [← hW]; exact BlA)
 have hs0 : w.heap.size ≤ W0.heap.size := by rw [← hW]; exact OmT
 replace HA := Lib.hid (HA.out.below HL_W0.out)
 clear HL_W0
 clear hW
 refine (mvalid_any _ _ _ _ _ _ _ _ _ HA.out).mono ?_
 rw [HVV.out]
 rintro e wa ⟨rfl, hb⟩
 have hs_wa : W0.heap.size ≤ wa.heap.size := hb.size
 replace HB := Lib.hid (HB.out.trans (hb.mono hs0))
 replace hs0 : w.heap.size ≤ wa.heap.size := Nat.le_trans hs0 hb.size
 replace HA := Lib.hid (HA.out.below hb)
 clear hb
 go_wp2_with fail
 go_ret
 exact ⟨rfl, HB.out⟩
set_option maxHeartbeats 2000000 in
theorem share_any {N : Nat} (n : Int) (w : World) (hN : N ≤ w.heap.size) (n1 : 1 ≤ n) (n2 : n ≤ 1000) (p : Rat) (hp : (n : Rat) / ((1000 : Int) : Rat) = p) :
  Calls Tryz.prog 32 #[.int .i64 n] w (RatPost N w p) := by
 have HP := Lib.hid ((mk_div n 1000).trans hp)
 clear hp
 have hN0 := hN
 have HB := Lib.hid (Below.refl w.heap.size w)
 go_enter Tryz.func32, Tryz.ntmps32
 go_wp2_with fail
 refine calls_name fun W0 hW => ?_
 have hs_W0 : w.heap.size ≤ W0.heap.size := by rw [← hW]; exact OmT
 have k_R_0 : W0.cell? ⟨w.heap.size, 0, none⟩ = some (.bool false) := by rw [← hW]; exact CeA
 have k_R_1 : W0.cell? ⟨w.heap.size, 1, none⟩ = some (.slice none 0 0) := by rw [← hW]; exact CeA
 have k_R_2 : W0.cell? ⟨w.heap.size, 2, none⟩ = some (.slice none 0 0) := by rw [← hW]; exact CeA
 have f_R : ∀ o, W0.frozen? ⟨w.heap.size, o, none⟩ = false := by intro o; rw [← hW]; exact CeA
 have HX_R := Lib.hid (show Bn W0 (w.heap.size) by rw [← hW]; exact KpA)
 replace HB := Lib.hid (show Below w.heap.size w W0 by rw [← hW]; exact BlA)
 replace hN : N ≤ W0.heap.size := by rw [← hW]; exact OmT
 have hs0 : w.heap.size ≤ W0.heap.size := by rw [← hW]; exact OmT
 have hl_R : w.heap.size < W0.heap.size := by rw [← hW]; exact OmT
 clear hW
 refine (xrof_any (N := N) n 1000 _ hN (by omega) (by omega) (by omega) (by omega) p HP.out).mono ?_
 rintro e wa ⟨rx, cx, rx2, cx2, rfl, hn, hn', hb⟩
 have hs_wa : W0.heap.size ≤ wa.heap.size := hb.size
 replace k_R_0 : wa.cell? ⟨w.heap.size, 0, none⟩ = some (.bool false) := (hb.cell (p := ⟨w.heap.size, 0, none⟩) hl_R).trans k_R_0
 replace k_R_1 : wa.cell? ⟨w.heap.size, 1, none⟩ = some (.slice none 0 0) := (hb.cell (p := ⟨w.heap.size, 1, none⟩) hl_R).trans k_R_1
 replace k_R_2 : wa.cell? ⟨w.heap.size, 2, none⟩ = some (.slice none 0 0) := (hb.cell (p := ⟨w.heap.size, 2, none⟩) hl_R).trans k_R_2
 replace f_R : ∀ o, wa.frozen? ⟨w.heap.size, o, none⟩ = false := fun o => (hb.frozen (p := ⟨w.heap.size, o, none⟩) hl_R).trans (f_R o)
 replace HX_R := Lib.hid (HX_R.out.below hb)
 replace HB := Lib.hid (HB.out.trans (hb.mono hs0))
 replace hN : N ≤ wa.heap.size := Nat.le_trans hN hb.size
 replace hs0 : w.heap.size ≤ wa.heap.size := Nat.le_trans hs0 hb.size
 replace hl_R : w.heap.size < wa.heap.size := Nat.lt_of_lt_of_le hl_R hb.size
 clear hb
 have HX1 := Lib.hid hn
 clear hn
 have HX2 := Lib.hid hn'
 clear hn'
 go_wp2_with fail
 refine bodyPost_ret (v := .agg #[.bool (decide ((p).num < 0)), .slice rx (nlen (p).num.natAbs) cx, .slice rx2 (nlen (p).den) cx2]) (by simp [results, Tryz.results32, go_sem, k_R_0, k_R_1, k_R_2, hl_R]) rfl ⟨_, _, _, _, rfl, HX1.out.keep ?_, HX2.out.keep ?_, ?_⟩
 all_goals exact KBA
set_option maxHeartbeats 4000000 in
set_option maxRecDepth 20000 in
theorem mprob_any {N : Nat} (a : Option Addr) (R cap : Nat) (ra : Nat → Option Addr) (rn rc : Nat → Nat) (z : Nat → Nat → Int) (w : World) (h : Rw w a R cap ra rn rc z) (hN : N ≤ w.heap.size) (hv : vldC R R rn z = 0) (qi : Nat) (hq : qi < R) (h2 : rn 0 = 2) (hl : rn qi = 2) (hz : 1 ≤ z qi 1 ∧ z qi 1 ≤ 1000) (p : Rat) (hp : ((z qi 1 : Int) : Rat) / ((1000 : Int) : Rat) = p) :
  Calls Tryz.prog 9 #[.agg #[.slice a R cap], .int .i64 qi, .int .i64 1] w (RatPostC N w p 0) := by
 have HA := Lib.hid h
 have bc := h.1
 have bm := h.2.1
 unfold maxLen at bm
 clear h
 have HVV := Lib.hid hv
 have H2 := Lib.hid h2
 obtain ⟨v, hzv⟩ : ∃ v, z qi 1 = v := ⟨_, rfl⟩
 rw [hzv] at hz hp
 have HZV := Lib.hid hzv
 have HP := Lib.hid ((mk_div v 1000).trans hp)
 clear hv h2 hp hzv
 obtain ⟨z1, z2⟩ := hz
 have hN0 := hN
 have HB := Lib.hid (Below.refl w.heap.size w)
 have hq0 : ¬ (qi : Int) < 0 := by omega
 have hq1 : ¬ (R : Int) ≤ (qi : Int) := by omega
 go_enter Tryz.func9, Tryz.ntmps9
 go_wp2_with fail
 refine calls_name fun W0 hW => ?_
 have hs_W0 : w.heap.size ≤ W0.heap.size := by rw [← hW]; exact OmT
 have HL_W0 := Lib.hid (show Below w.heap.size w W0 by rw [← hW]; exact BlA)
 have k_M_0 : W0.cell? ⟨w.heap.size, 0, none⟩ = some (.slice a R cap) := by rw [← hW]; exact CeA
 have f_M : ∀ o, W0.frozen? ⟨w.heap.size, o, none⟩ = false := by intro o; rw [← hW]; exact CeA
 have HX_M := Lib.hid (show Bn W0 (w.heap.size) by rw [← hW]; exact KpA)
 have k_R_0 : W0.cell? ⟨w.heap.size + 1, 0, none⟩ = some (.bool false) := by rw [← hW]; exact CeA
 have k_R_1 : W0.cell? ⟨w.heap.size + 1, 1, none⟩ = some (.slice none 0 0) := by rw [← hW]; exact CeA
 have k_R_2 : W0.cell? ⟨w.heap.size + 1, 2, none⟩ = some (.slice none 0 0) := by rw [← hW]; exact CeA
 have f_R : ∀ o, W0.frozen? ⟨w.heap.size + 1, o, none⟩ = false := by intro o; rw [← hW]; exact CeA
 have HX_R := Lib.hid (show Bn W0 (w.heap.size + 1) by rw [← hW]; exact KpA)
 replace HB := Lib.hid (show Below w.heap.size w W0 by rw [← hW]; exact BlA)
 replace hN : N ≤ W0.heap.size := by rw [← hW]; exact OmT
 have hs0 : w.heap.size ≤ W0.heap.size := by rw [← hW]; exact OmT
 have hl_M : w.heap.size < W0.heap.size := by rw [← hW]; exact OmT
 have hl_R : w.heap.size + 1 < W0.heap.size := by rw [← hW]; exact OmT
 replace HA := Lib.hid (HA.out.below HL_W0.out)
 clear HL_W0
 clear hW
 refine (mvalid1_any _ _ _ _ _ _ _ _ HA.out 0 HVV.out).mono ?_
 rintro e wa ⟨rfl, hb⟩
 have hs_wa : W0.heap.size ≤ wa.heap.size := hb.size
 replace k_M_0 : wa.cell? ⟨w.heap.size, 0, none⟩ = some (.slice a R cap) := (hb.cell (p := ⟨w.heap.size, 0, none⟩) hl_M).trans k_M_0
 replace f_M : ∀ o, wa.frozen? ⟨w.heap.size, o, none⟩ = false := fun o => (hb.frozen (p := ⟨w.heap.size, o, none⟩) hl_M).trans (f_M o)
 replace HX_M := Lib.hid (HX_M.out.below hb)
 replace k_R_0 : wa.cell? ⟨w.heap.size + 1, 0, none⟩ = some (.bool false) := (hb.cell (p := ⟨w.heap.size + 1, 0, none⟩) hl_R).trans k_R_0
 replace k_R_1 : wa.cell? ⟨w.heap.size + 1, 1, none⟩ = some (.slice none 0 0) := (hb.cell (p := ⟨w.heap.size + 1, 1, none⟩) hl_R).trans k_R_1
 replace k_R_2 : wa.cell? ⟨w.heap.size + 1, 2, none⟩ = some (.slice none 0 0) := (hb.cell (p := ⟨w.heap.size + 1, 2, none⟩) hl_R).trans k_R_2
 replace f_R : ∀ o, wa.frozen? ⟨w.heap.size + 1, o, none⟩ = false := fun o => (hb.frozen (p := ⟨w.heap.size + 1, o, none⟩) hl_R).trans (f_R o)
 replace HX_R := Lib.hid (HX_R.out.below hb)
 replace HB := Lib.hid (HB.out.trans (hb.mono hs0))
 replace hN : N ≤ wa.heap.size := Nat.le_trans hN hb.size
 replace hs0 : w.heap.size ≤ wa.heap.size := Nat.le_trans hs0 hb.size
 replace hl_M : w.heap.size < wa.heap.size := Nat.lt_of_lt_of_le hl_M hb.size
 replace hl_R : w.heap.size + 1 < wa.heap.size := Nat.lt_of_lt_of_le hl_R hb.size
 replace HA := Lib.hid (HA.out.below hb)
 clear hb
 go_wp2_with fail
 refine calls_name fun W1 hW => ?_
 have HL_W1 := Lib.hid (show Below wa.heap.size wa W1 by rw [← hW]; exact BlA)
 have hs_W1 : wa.heap.size ≤ W1.heap.size := by rw [← hW]; exact OmT
 replace k_M_0 : W1.cell? ⟨w.heap.size, 0, none⟩ = some (.slice a R cap) := (HL_W1.out.cell (p := ⟨w.heap.size, 0, none⟩) hl_M).trans k_M_0
 replace f_M : ∀ o, W1.frozen? ⟨w.heap.size, o, none⟩ = false := fun o => (HL_W1.out.frozen (p := ⟨w.heap.size, o, none⟩) hl_M).trans (f_M o)
 replace HX_M := Lib.hid (show Bn W1 (w.heap.size) by rw [← hW]; exact KpA)
 replace k_R_0 : W1.cell? ⟨w.heap.size + 1, 0, none⟩ = some (.bool false) := (HL_W1.out.cell (p := ⟨w.heap.size + 1, 0, none⟩) hl_R).trans k_R_0
 replace k_R_1 : W1.cell? ⟨w.heap.size + 1, 1, none⟩ = some (.slice none 0 0) := (HL_W1.out.cell (p := ⟨w.heap.size + 1, 1, none⟩) hl_R).trans k_R_1
 replace k_R_2 : W1.cell? ⟨w.heap.size + 1, 2, none⟩ = some (.slice none 0 0) := (HL_W1.out.cell (p := ⟨w.heap.size + 1, 2, none⟩) hl_R).trans k_R_2
 replace f_R : ∀ o, W1.frozen? ⟨w.heap.size + 1, o, none⟩ = false := fun o => (HL_W1.out.frozen (p := ⟨w.heap.size + 1, o, none⟩) hl_R).trans (f_R o)
 replace HX_R := Lib.hid (show Bn W1 (w.heap.size + 1) by rw [← hW]; exact KpA)
 replace HB := Lib.hid (show Below w.heap.size w W1 by rw [← hW]; exact BlA)
 replace hN : N ≤ W1.heap.size := by rw [← hW]; exact OmT
 replace hs0 : w.heap.size ≤ W1.heap.size := by rw [← hW]; exact OmT
 replace hl_M : w.heap.size < W1.heap.size := by rw [← hW]; exact OmT
 replace hl_R : w.heap.size + 1 < W1.heap.size := by rw [← hW]; exact OmT
 replace HA := Lib.hid (HA.out.below HL_W1.out)
 clear HL_W1
 clear hW
 refine (mcats_any _ _ _ _ _ _ _ _ HA.out (by omega)).mono ?_
 rw [H2.out]
 rintro e wb ⟨rfl, hb⟩
 have hs_wb : W1.heap.size ≤ wb.heap.size := hb.size
 replace k_M_0 : wb.cell? ⟨w.heap.size, 0, none⟩ = some (.slice a R cap) := (hb.cell (p := ⟨w.heap.size, 0, none⟩) hl_M).trans k_M_0
 replace f_M : ∀ o, wb.frozen? ⟨w.heap.size, o, none⟩ = false := fun o => (hb.frozen (p := ⟨w.heap.size, o, none⟩) hl_M).trans (f_M o)
 replace HX_M := Lib.hid (HX_M.out.below hb)
 replace k_R_0 : wb.cell? ⟨w.heap.size + 1, 0, none⟩ = some (.bool false) := (hb.cell (p := ⟨w.heap.size + 1, 0, none⟩) hl_R).trans k_R_0
 replace k_R_1 : wb.cell? ⟨w.heap.size + 1, 1, none⟩ = some (.slice none 0 0) := (hb.cell (p := ⟨w.heap.size + 1, 1, none⟩) hl_R).trans k_R_1
 replace k_R_2 : wb.cell? ⟨w.heap.size + 1, 2, none⟩ = some (.slice none 0 0) := (hb.cell (p := ⟨w.heap.size + 1, 2, none⟩) hl_R).trans k_R_2
 replace f_R : ∀ o, wb.frozen? ⟨w.heap.size + 1, o, none⟩ = false := fun o => (hb.frozen (p := ⟨w.heap.size + 1, o, none⟩) hl_R).trans (f_R o)
 replace HX_R := Lib.hid (HX_R.out.below hb)
 replace HB := Lib.hid (HB.out.trans (hb.mono hs0))
 replace hN : N ≤ wb.heap.size := Nat.le_trans hN hb.size
 replace hs0 : w.heap.size ≤ wb.heap.size := Nat.le_trans hs0 hb.size
 replace hl_M : w.heap.size < wb.heap.size := Nat.lt_of_lt_of_le hl_M hb.size
 replace hl_R : w.heap.size + 1 < wb.heap.size := Nat.lt_of_lt_of_le hl_R hb.size
 replace HA := Lib.hid (HA.out.below hb)
 clear hb
 obtain ⟨b, off, rfl, hc⟩ := HA.out.2.2 (by omega)
 obtain ⟨hc1, hrow⟩ := hc qi hq
 rw [hl] at hc1 hrow
 obtain ⟨b2, off2, hra, hc2⟩ := hrow.2.2 (by omega)
 rw [hra] at hc1
 have hcell := hc2 1 (by omega)
 rw [HZV.out] at hcell
 have l1 := hrow.1
 have hqz : (qi : Int) < (R : Int) := by omega
 have hqz0 : (0 : Int) ≤ (qi : Int) := by omega
 clear hc hrow hra hc2
 go_wp2_with fail
 refine calls_name fun W2 hW => ?_
 have HL_W2 := Lib.hid (show Below wb.heap.size wb W2 by rw [← hW]; exact BlA)
 have hs_W2 : wb.heap.size ≤ W2.heap.size := by rw [← hW]; exact OmT
 replace k_M_0 : W2.cell? ⟨w.heap.size, 0, none⟩ = some (.slice (some ⟨b, off, none⟩) R cap) := (HL_W2.out.cell (p := ⟨w.heap.size, 0, none⟩) hl_M).trans k_M_0
 replace f_M : ∀ o, W2.frozen? ⟨w.heap.size, o, none⟩ = false := fun o => (HL_W2.out.frozen (p := ⟨w.heap.size, o, none⟩) hl_M).trans (f_M o)
 replace HX_M := Lib.hid (show Bn W2 (w.heap.size) by rw [← hW]; exact KpA)
 replace k_R_0 : W2.cell? ⟨w.heap.size + 1, 0, none⟩ = some (.bool false) := (HL_W2.out.cell (p := ⟨w.heap.size + 1, 0, none⟩) hl_R).trans k_R_0
 replace k_R_1 : W2.cell? ⟨w.heap.size + 1, 1, none⟩ = some (.slice none 0 0) := (HL_W2.out.cell (p := ⟨w.heap.size + 1, 1, none⟩) hl_R).trans k_R_1
 replace k_R_2 : W2.cell? ⟨w.heap.size + 1, 2, none⟩ = some (.slice none 0 0) := (HL_W2.out.cell (p := ⟨w.heap.size + 1, 2, none⟩) hl_R).trans k_R_2
 replace f_R : ∀ o, W2.frozen? ⟨w.heap.size + 1, o, none⟩ = false := fun o => (HL_W2.out.frozen (p := ⟨w.heap.size + 1, o, none⟩) hl_R).trans (f_R o)
 replace HX_R := Lib.hid (show Bn W2 (w.heap.size + 1) by rw [← hW]; exact KpA)
 replace HB := Lib.hid (show Below w.heap.size w W2 by rw [← hW]; exact BlA)
 replace hN : N ≤ W2.heap.size := by rw [← hW]; exact OmT
 replace hs0 : w.heap.size ≤ W2.heap.size := by rw [← hW]; exact OmT
 replace hl_M : w.heap.size < W2.heap.size := by rw [← hW]; exact OmT
 replace hl_R : w.heap.size + 1 < W2.heap.size := by rw [← hW]; exact OmT
 replace HA := Lib.hid (HA.out.below HL_W2.out)
 clear HL_W2
 clear hW
 refine (rof_any (N := N) v 1000 _ hN (by omega) (by omega) (by omega) (by omega) p HP.out).mono ?_
 rintro e wc ⟨rx, cx, rx2, cx2, rfl, hn, hn', hb⟩
 have hs_wc : W2.heap.size ≤ wc.heap.size := hb.size
 replace k_M_0 : wc.cell? ⟨w.heap.size, 0, none⟩ = some (.slice (some ⟨b, off, none⟩) R cap) := (hb.cell (p := ⟨w.heap.size, 0, none⟩) hl_M).trans k_M_0
 replace f_M : ∀ o, wc.frozen? ⟨w.heap.size, o, none⟩ = false := fun o => (hb.frozen (p := ⟨w.heap.size, o, none⟩) hl_M).trans (f_M o)
 replace HX_M := Lib.hid (HX_M.out.below hb)
 replace k_R_0 : wc.cell? ⟨w.heap.size + 1, 0, none⟩ = some (.bool false) := (hb.cell (p := ⟨w.heap.size + 1, 0, none⟩) hl_R).trans k_R_0
 replace k_R_1 : wc.cell? ⟨w.heap.size + 1, 1, none⟩ = some (.slice none 0 0) := (hb.cell (p := ⟨w.heap.size + 1, 1, none⟩) hl_R).trans k_R_1
 replace k_R_2 : wc.cell? ⟨w.heap.size + 1, 2, none⟩ = some (.slice none 0 0) := (hb.cell (p := ⟨w.heap.size + 1, 2, none⟩) hl_R).trans k_R_2
 replace f_R : ∀ o, wc.frozen? ⟨w.heap.size + 1, o, none⟩ = false := fun o => (hb.frozen (p := ⟨w.heap.size + 1, o, none⟩) hl_R).trans (f_R o)
 replace HX_R := Lib.hid (HX_R.out.below hb)
 replace HB := Lib.hid (HB.out.trans (hb.mono hs0))
 replace hN : N ≤ wc.heap.size := Nat.le_trans hN hb.size
 replace hs0 : w.heap.size ≤ wc.heap.size := Nat.le_trans hs0 hb.size
 replace hl_M : w.heap.size < wc.heap.size := Nat.lt_of_lt_of_le hl_M hb.size
 replace hl_R : w.heap.size + 1 < wc.heap.size := Nat.lt_of_lt_of_le hl_R hb.size
 replace HA := Lib.hid (HA.out.below hb)
 clear hb
 have HX1 := Lib.hid hn
 clear hn
 have HX2 := Lib.hid hn'
 clear hn'
 go_wp2_with fail
 refine bodyPost_ret (v := .tuple #[.agg #[.bool (decide ((p).num < 0)), .slice rx (nlen (p).num.natAbs) cx, .slice rx2 (nlen (p).den) cx2], .int .i64 0]) (by simp [results, Tryz.results9, go_sem, k_R_0, k_R_1, k_R_2, hl_R]) rfl ⟨_, _, _, _, rfl, HX1.out.keep ?_, HX2.out.keep ?_, ?_⟩
 all_goals exact KBA
set_option maxHeartbeats 4000000 in
set_option maxRecDepth 20000 in
theorem xmprob_any {N : Nat} (a : Option Addr) (R cap : Nat) (ra : Nat → Option Addr) (rn rc : Nat → Nat) (z : Nat → Nat → Int) (w : World) (h : Rw w a R cap ra rn rc z) (hN : N ≤ w.heap.size) (hv : vldC R R rn z = 0) (qi : Nat) (hq : qi < R) (h2 : rn 0 = 2) (hl : rn qi = 2) (hz : 1 ≤ z qi 1 ∧ z qi 1 ≤ 1000) (p : Rat) (hp : ((z qi 1 : Int) : Rat) / ((1000 : Int) : Rat) = p) :
  Calls Tryz.prog 14 #[.agg #[.slice a R cap], .int .i64 qi, .int .i64 1] w (RatPostC N w p 0) := by
 have HA := Lib.hid h
 have bc := h.1
 have bm := h.2.1
 unfold maxLen at bm
 clear h
 have HVV := Lib.hid hv
 have H2 := Lib.hid h2
 obtain ⟨v, hzv⟩ : ∃ v, z qi 1 = v := ⟨_, rfl⟩
 rw [hzv] at hz hp
 have HZV := Lib.hid hzv
 have HP := Lib.hid hp
 clear hv h2 hp hzv
 obtain ⟨z1, z2⟩ := hz
 have hN0 := hN
 have HB := Lib.hid (Below.refl w.heap.size w)
 have hq0 : ¬ (qi : Int) < 0 := by omega
 have hq1 : ¬ (R : Int) ≤ (qi : Int) := by omega
 go_enter Tryz.func14, Tryz.ntmps14
 go_wp2_with fail
 refine calls_name fun W0 hW => ?_
 have hs_W0 : w.heap.size ≤ W0.heap.size := by rw [← hW]; exact OmT
 have HL_W0 := Lib.hid (show Below w.heap.size w W0 by rw [← hW]; exact BlA)
 have k_M_0 : W0.cell? ⟨w.heap.size, 0, none⟩ = some (.slice a R cap) := by rw [← hW]; exact CeA
 have f_M : ∀ o, W0.frozen? ⟨w.heap.size, o, none⟩ = false := by intro o; rw [← hW]; exact CeA
 have HX_M := Lib.hid (show Bn W0 (w.heap.size) by rw [← hW]; exact KpA)
 have k_R_0 : W0.cell? ⟨w.heap.size + 1, 0, none⟩ = some (.bool false) := by rw [← hW]; exact CeA
 have k_R_1 : W0.cell? ⟨w.heap.size + 1, 1, none⟩ = some (.slice none 0 0) := by rw [← hW]; exact CeA
 have k_R_2 : W0.cell? ⟨w.heap.size + 1, 2, none⟩ = some (.slice none 0 0) := by rw [← hW]; exact CeA
 have f_R : ∀ o, W0.frozen? ⟨w.heap.size + 1, o, none⟩ = false := by intro o; rw [← hW]; exact CeA
 have HX_R := Lib.hid (show Bn W0 (w.heap.size + 1) by rw [← hW]; exact KpA)
 replace HB := Lib.hid (show Below w.heap.size w W0 by rw [← hW]; exact BlA)
 replace hN : N ≤ W0.heap.size := by rw [← hW]; exact OmT
 have hs0 : w.heap.size ≤ W0.heap.size := by rw [← hW]; exact OmT
 have hl_M : w.heap.size < W0.heap.size := by rw [← hW]; exact OmT
 have hl_R : w.heap.size + 1 < W0.heap.size := by rw [← hW]; exact OmT
 replace HA := Lib.hid (HA.out.below HL_W0.out)
 clear HL_W0
 clear hW
 refine (xmvalid_any _ _ _ _ _ _ _ _ _ HA.out).mono ?_
 rw [HVV.out]
 rintro e wa ⟨rfl, hb⟩
 have hs_wa : W0.heap.size ≤ wa.heap.size := hb.size
 replace k_M_0 : wa.cell? ⟨w.heap.size, 0, none⟩ = some (.slice a R cap) := (hb.cell (p := ⟨w.heap.size, 0, none⟩) hl_M).trans k_M_0
 replace f_M : ∀ o, wa.frozen? ⟨w.heap.size, o, none⟩ = false := fun o => (hb.frozen (p := ⟨w.heap.size, o, none⟩) hl_M).trans (f_M o)
 replace HX_M := Lib.hid (HX_M.out.below hb)
 replace k_R_0 : wa.cell? ⟨w.heap.size + 1, 0, none⟩ = some (.bool false) := (hb.cell (p := ⟨w.heap.size + 1, 0, none⟩) hl_R).trans k_R_0
 replace k_R_1 : wa.cell? ⟨w.heap.size + 1, 1, none⟩ = some (.slice none 0 0) := (hb.cell (p := ⟨w.heap.size + 1, 1, none⟩) hl_R).trans k_R_1
 replace k_R_2 : wa.cell? ⟨w.heap.size + 1, 2, none⟩ = some (.slice none 0 0) := (hb.cell (p := ⟨w.heap.size + 1, 2, none⟩) hl_R).trans k_R_2
 replace f_R : ∀ o, wa.frozen? ⟨w.heap.size + 1, o, none⟩ = false := fun o => (hb.frozen (p := ⟨w.heap.size + 1, o, none⟩) hl_R).trans (f_R o)
 replace HX_R := Lib.hid (HX_R.out.below hb)
 replace HB := Lib.hid (HB.out.trans (hb.mono hs0))
 replace hN : N ≤ wa.heap.size := Nat.le_trans hN hb.size
 replace hs0 : w.heap.size ≤ wa.heap.size := Nat.le_trans hs0 hb.size
 replace hl_M : w.heap.size < wa.heap.size := Nat.lt_of_lt_of_le hl_M hb.size
 replace hl_R : w.heap.size + 1 < wa.heap.size := Nat.lt_of_lt_of_le hl_R hb.size
 replace HA := Lib.hid (HA.out.below hb)
 clear hb
 go_wp2_with fail
 refine calls_name fun W1 hW => ?_
 have HL_W1 := Lib.hid (show Below wa.heap.size wa W1 by rw [← hW]; exact BlA)
 have hs_W1 : wa.heap.size ≤ W1.heap.size := by rw [← hW]; exact OmT
 replace k_M_0 : W1.cell? ⟨w.heap.size, 0, none⟩ = some (.slice a R cap) := (HL_W1.out.cell (p := ⟨w.heap.size, 0, none⟩) hl_M).trans k_M_0
 replace f_M : ∀ o, W1.frozen? ⟨w.heap.size, o, none⟩ = false := fun o => (HL_W1.out.frozen (p := ⟨w.heap.size, o, none⟩) hl_M).trans (f_M o)
 replace HX_M := Lib.hid (show Bn W1 (w.heap.size) by rw [← hW]; exact KpA)
 replace k_R_0 : W1.cell? ⟨w.heap.size + 1, 0, none⟩ = some (.bool false) := (HL_W1.out.cell (p := ⟨w.heap.size + 1, 0, none⟩) hl_R).trans k_R_0
 replace k_R_1 : W1.cell? ⟨w.heap.size + 1, 1, none⟩ = some (.slice none 0 0) := (HL_W1.out.cell (p := ⟨w.heap.size + 1, 1, none⟩) hl_R).trans k_R_1
 replace k_R_2 : W1.cell? ⟨w.heap.size + 1, 2, none⟩ = some (.slice none 0 0) := (HL_W1.out.cell (p := ⟨w.heap.size + 1, 2, none⟩) hl_R).trans k_R_2
 replace f_R : ∀ o, W1.frozen? ⟨w.heap.size + 1, o, none⟩ = false := fun o => (HL_W1.out.frozen (p := ⟨w.heap.size + 1, o, none⟩) hl_R).trans (f_R o)
 replace HX_R := Lib.hid (show Bn W1 (w.heap.size + 1) by rw [← hW]; exact KpA)
 replace HB := Lib.hid (show Below w.heap.size w W1 by rw [← hW]; exact BlA)
 replace hN : N ≤ W1.heap.size := by rw [← hW]; exact OmT
 replace hs0 : w.heap.size ≤ W1.heap.size := by rw [← hW]; exact OmT
 replace hl_M : w.heap.size < W1.heap.size := by rw [← hW]; exact OmT
 replace hl_R : w.heap.size + 1 < W1.heap.size := by rw [← hW]; exact OmT
 replace HA := Lib.hid (HA.out.below HL_W1.out)
 clear HL_W1
 clear hW
 refine (xmcats_any _ _ _ _ _ _ _ _ HA.out (by omega)).mono ?_
 rw [H2.out]
 rintro e wb ⟨rfl, hb⟩
 have hs_wb : W1.heap.size ≤ wb.heap.size := hb.size
 replace k_M_0 : wb.cell? ⟨w.heap.size, 0, none⟩ = some (.slice a R cap) := (hb.cell (p := ⟨w.heap.size, 0, none⟩) hl_M).trans k_M_0
 replace f_M : ∀ o, wb.frozen? ⟨w.heap.size, o, none⟩ = false := fun o => (hb.frozen (p := ⟨w.heap.size, o, none⟩) hl_M).trans (f_M o)
 replace HX_M := Lib.hid (HX_M.out.below hb)
 replace k_R_0 : wb.cell? ⟨w.heap.size + 1, 0, none⟩ = some (.bool false) := (hb.cell (p := ⟨w.heap.size + 1, 0, none⟩) hl_R).trans k_R_0
 replace k_R_1 : wb.cell? ⟨w.heap.size + 1, 1, none⟩ = some (.slice none 0 0) := (hb.cell (p := ⟨w.heap.size + 1, 1, none⟩) hl_R).trans k_R_1
 replace k_R_2 : wb.cell? ⟨w.heap.size + 1, 2, none⟩ = some (.slice none 0 0) := (hb.cell (p := ⟨w.heap.size + 1, 2, none⟩) hl_R).trans k_R_2
 replace f_R : ∀ o, wb.frozen? ⟨w.heap.size + 1, o, none⟩ = false := fun o => (hb.frozen (p := ⟨w.heap.size + 1, o, none⟩) hl_R).trans (f_R o)
 replace HX_R := Lib.hid (HX_R.out.below hb)
 replace HB := Lib.hid (HB.out.trans (hb.mono hs0))
 replace hN : N ≤ wb.heap.size := Nat.le_trans hN hb.size
 replace hs0 : w.heap.size ≤ wb.heap.size := Nat.le_trans hs0 hb.size
 replace hl_M : w.heap.size < wb.heap.size := Nat.lt_of_lt_of_le hl_M hb.size
 replace hl_R : w.heap.size + 1 < wb.heap.size := Nat.lt_of_lt_of_le hl_R hb.size
 replace HA := Lib.hid (HA.out.below hb)
 clear hb
 obtain ⟨b, off, rfl, hc⟩ := HA.out.2.2 (by omega)
 obtain ⟨hc1, hrow⟩ := hc qi hq
 rw [hl] at hc1 hrow
 obtain ⟨b2, off2, hra, hc2⟩ := hrow.2.2 (by omega)
 rw [hra] at hc1
 have hcell := hc2 1 (by omega)
 rw [HZV.out] at hcell
 have l1 := hrow.1
 have hqz : (qi : Int) < (R : Int) := by omega
 have hqz0 : (0 : Int) ≤ (qi : Int) := by omega
 clear hc hrow hra hc2
 go_wp2_with fail
 refine calls_name fun W2 hW => ?_
 have HL_W2 := Lib.hid (show Below wb.heap.size wb W2 by rw [← hW]; exact BlA)
 have hs_W2 : wb.heap.size ≤ W2.heap.size := by rw [← hW]; exact OmT
 replace k_M_0 : W2.cell? ⟨w.heap.size, 0, none⟩ = some (.slice (some ⟨b, off, none⟩) R cap) := (HL_W2.out.cell (p := ⟨w.heap.size, 0, none⟩) hl_M).trans k_M_0
 replace f_M : ∀ o, W2.frozen? ⟨w.heap.size, o, none⟩ = false := fun o => (HL_W2.out.frozen (p := ⟨w.heap.size, o, none⟩) hl_M).trans (f_M o)
 replace HX_M := Lib.hid (show Bn W2 (w.heap.size) by rw [← hW]; exact KpA)
 replace k_R_0 : W2.cell? ⟨w.heap.size + 1, 0, none⟩ = some (.bool false) := (HL_W2.out.cell (p := ⟨w.heap.size + 1, 0, none⟩) hl_R).trans k_R_0
 replace k_R_1 : W2.cell? ⟨w.heap.size + 1, 1, none⟩ = some (.slice none 0 0) := (HL_W2.out.cell (p := ⟨w.heap.size + 1, 1, none⟩) hl_R).trans k_R_1
 replace k_R_2 : W2.cell? ⟨w.heap.size + 1, 2, none⟩ = some (.slice none 0 0) := (HL_W2.out.cell (p := ⟨w.heap.size + 1, 2, none⟩) hl_R).trans k_R_2
 replace f_R : ∀ o, W2.frozen? ⟨w.heap.size + 1, o, none⟩ = false := fun o => (HL_W2.out.frozen (p := ⟨w.heap.size + 1, o, none⟩) hl_R).trans (f_R o)
 replace HX_R := Lib.hid (show Bn W2 (w.heap.size + 1) by rw [← hW]; exact KpA)
 replace HB := Lib.hid (show Below w.heap.size w W2 by rw [← hW]; exact BlA)
 replace hN : N ≤ W2.heap.size := by rw [← hW]; exact OmT
 replace hs0 : w.heap.size ≤ W2.heap.size := by rw [← hW]; exact OmT
 replace hl_M : w.heap.size < W2.heap.size := by rw [← hW]; exact OmT
 replace hl_R : w.heap.size + 1 < W2.heap.size := by rw [← hW]; exact OmT
 replace HA := Lib.hid (HA.out.below HL_W2.out)
 clear HL_W2
 clear hW
 refine (share_any (N := N) v _ hN z1 z2 p HP.out).mono ?_
 rintro e wc ⟨rx, cx, rx2, cx2, rfl, hn, hn', hb⟩
 have hs_wc : W2.heap.size ≤ wc.heap.size := hb.size
 replace k_M_0 : wc.cell? ⟨w.heap.size, 0, none⟩ = some (.slice (some ⟨b, off, none⟩) R cap) := (hb.cell (p := ⟨w.heap.size, 0, none⟩) hl_M).trans k_M_0
 replace f_M : ∀ o, wc.frozen? ⟨w.heap.size, o, none⟩ = false := fun o => (hb.frozen (p := ⟨w.heap.size, o, none⟩) hl_M).trans (f_M o)
 replace HX_M := Lib.hid (HX_M.out.below hb)
 replace k_R_0 : wc.cell? ⟨w.heap.size + 1, 0, none⟩ = some (.bool false) := (hb.cell (p := ⟨w.heap.size + 1, 0, none⟩) hl_R).trans k_R_0
 replace k_R_1 : wc.cell? ⟨w.heap.size + 1, 1, none⟩ = some (.slice none 0 0) := (hb.cell (p := ⟨w.heap.size + 1, 1, none⟩) hl_R).trans k_R_1
 replace k_R_2 : wc.cell? ⟨w.heap.size + 1, 2, none⟩ = some (.slice none 0 0) := (hb.cell (p := ⟨w.heap.size + 1, 2, none⟩) hl_R).trans k_R_2
 replace f_R : ∀ o, wc.frozen? ⟨w.heap.size + 1, o, none⟩ = false := fun o => (hb.frozen (p := ⟨w.heap.size + 1, o, none⟩) hl_R).trans (f_R o)
 replace HX_R := Lib.hid (HX_R.out.below hb)
 replace HB := Lib.hid (HB.out.trans (hb.mono hs0))
 replace hN : N ≤ wc.heap.size := Nat.le_trans hN hb.size
 replace hs0 : w.heap.size ≤ wc.heap.size := Nat.le_trans hs0 hb.size
 replace hl_M : w.heap.size < wc.heap.size := Nat.lt_of_lt_of_le hl_M hb.size
 replace hl_R : w.heap.size + 1 < wc.heap.size := Nat.lt_of_lt_of_le hl_R hb.size
 replace HA := Lib.hid (HA.out.below hb)
 clear hb
 have HX1 := Lib.hid hn
 clear hn
 have HX2 := Lib.hid hn'
 clear hn'
 go_wp2_with fail
 refine bodyPost_ret (v := .tuple #[.agg #[.bool (decide ((p).num < 0)), .slice rx (nlen (p).num.natAbs) cx, .slice rx2 (nlen (p).den) cx2], .int .i64 0]) (by simp [results, Tryz.results14, go_sem, k_R_0, k_R_1, k_R_2]) rfl ⟨_, _, _, _, rfl, HX1.out.keep ?_, HX2.out.keep ?_, ?_⟩
 all_goals exact KBA
end Go.Proofs.YtjobopafcgnljaaGreat
