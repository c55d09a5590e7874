/- DifFlags returns true: the walk. The table of powers of ten must lie in memory. -/
import Derived.Test.YtmecipfdelgfbaaDoorLawES
namespace Go.Proofs.YtmecipfdelgfbaaDoor
open Go.RowKit

theorem class_gen {N : Nat} (a : Option Addr) (n cap : Nat) (t : Nat → Nat → Nat) (w : World) (hN : N ≤ w.heap.size) (h : Tz w a n cap t) (hn : n ≤ 20) (hc : cntS t n) (hs : supS t n ≤ 121) (s2 : Bool) (a2 d2 : Option Addr) (na2 ca2 nd2 cd2 L : Nat) (al : Rat) (h2 : Rt N w s2 a2 na2 ca2 d2 nd2 cd2 al L) (hL : L ≤ 2097152) (c : Int) (hcl : claS (tstS t n) al (sQ (onmS t) n) (sQ (odnS t) n) = c) :
    Calls Tryd.prog 12 #[.slice a n cap, .agg #[.bool s2, .slice a2 na2 ca2, .slice d2 nd2 cd2]] w fun e w' => ∃ x k : Int, e = .returned (.tuple #[.int .i64 x, .int .i64 k]) ∧ (k = 0 → x = c) ∧ Below w.heap.size w w' := by
  refine (class_ok (N := N) a n cap t w hN h hn hc hs s2 a2 d2 na2 ca2 nd2 cd2 L al h2 hL (prb al) rfl c hcl).mono ?_
  rintro e w' ⟨rfl, hb⟩
  cases prb al
  · exact ⟨0, 3, rfl, fun h => absurd h (by decide), hb⟩
  · exact ⟨c, 0, rfl, fun _ => rfl, hb⟩
theorem le_of_cmp {p q : Rat} (h : cmpQ p q ≤ 0) : p ≤ q := of_decide_eq_true ((cmp_le p q).symm.trans (decide_eq_true h))

set_option maxRecDepth 20000 in
set_option maxHeartbeats 16000000 in
theorem difFlags_walk {N : Nat} (a : Option Addr) (n cap : Nat) (z : Nat → Nat → Int) (pa ia ca : Option Addr) (P pc I ic R cc : Nat) (zp zi : Nat → Int) (ra : Nat → Option Addr) (rn rc : Nat → Nat) (zz : Nat → Nat → Int) (fa : Option Addr) (nf fc : Nat) (f : Nat → Bool) (s2 s3 : Bool) (a2 d2 a3 d3 : Option Addr) (na2 ca2 nd2 cd2 na3 ca3 nd3 cd3 L : Nat) (al be : Rat) (w : World) (hN : N ≤ w.heap.size) (h : Ts w a n cap z) (hp : Is w pa P pc zp) (hi : Is w ia I ic zi) (hc : Rw w ca R cc ra rn rc zz) (hf : Bs w fa nf fc f) (h2 : Rt N w s2 a2 na2 ca2 d2 nd2 cd2 al L) (h3 : Rt N w s3 a3 na3 ca3 d3 nd3 cd3 be L) (hL : L ≤ 2097152) (htab : TabW w) :
    Calls Tryd.prog 4 #[.slice a n cap, .agg #[.slice pa P pc, .slice ia I ic, .slice ca R cc], .slice fa nf fc, .agg #[.bool s2, .slice a2 na2 ca2, .slice d2 nd2 cd2], .agg #[.bool s3, .slice a3 na3 ca3, .slice d3 nd3 cd3]] w fun e w' => e = .returned (.bool true) ∧ Below w.heap.size w w' := by
  have HA := Lib.hid h
  have HT := Lib.hid htab
  have HAL := Lib.hid h2
  have HBE := Lib.hid h3
  have HP := Lib.hid hp
  have HI := Lib.hid hi
  have HC := Lib.hid hc
  have HF := Lib.hid hf
  have bc := h.1
  have bm := h.2.1
  have b1 := hp.1
  have b2 := hp.2.1
  have b3 := hi.1
  have b4 := hi.2.1
  have b5 := hc.1
  have b6 := hc.2.1
  have b7 := hf.1
  have b8 := hf.2.1
  unfold maxLen at bm b2 b4 b6 b8
  clear h htab h2 h3 hp hi hc hf
  have hN0 := hN
  have HB := Lib.hid (Below.refl w.heap.size w)
  go_enter Tryd.func4, Tryd.ntmps4
  go_wp2_with fail
  refine calls_name fun W0 hW => ?_
  have hs_W0 : w.heap.size ≤ W0.heap.size := by rw [← hW]; (first | omega | (simp; done) | (simp; omega))
  have HL_W0 := Lib.hid (show Below w.heap.size w W0 by rw [← hW]; exact BlA)
  have k_M_0 : W0.cell? ⟨w.heap.size, 0, none⟩ = some (.slice pa P pc) := by rw [← hW]; (first | (go_simp; done) | (simp; done) | (simp [go_sem]; done) | (simp [go_sem]; done))
  have k_M_1 : W0.cell? ⟨w.heap.size, 1, none⟩ = some (.slice ia I ic) := by rw [← hW]; (first | (go_simp; done) | (simp; done) | (simp [go_sem]; done) | (simp [go_sem]; done))
  have k_M_2 : W0.cell? ⟨w.heap.size, 2, none⟩ = some (.slice ca R cc) := by rw [← hW]; (first | (go_simp; done) | (simp; done) | (simp [go_sem]; done) | (simp [go_sem]; done))
  have f_M : ∀ o, W0.frozen? ⟨w.heap.size, o, none⟩ = false := by intro o; rw [← hW]; (first | (go_simp; done) | (simp; done) | (simp [go_sem]; done) | (simp [go_sem]; done))
  have HX_M := Lib.hid (show Bn W0 (w.heap.size) by rw [← hW]; exact KpA)
  have k_A_0 : W0.cell? ⟨w.heap.size + 1, 0, none⟩ = some (.bool s2) := by rw [← hW]; (first | (go_simp; done) | (simp; done) | (simp [go_sem]; done) | (simp [go_sem]; done))
  have k_A_1 : W0.cell? ⟨w.heap.size + 1, 1, none⟩ = some (.slice a2 na2 ca2) := by rw [← hW]; (first | (go_simp; done) | (simp; done) | (simp [go_sem]; done) | (simp [go_sem]; done))
  have k_A_2 : W0.cell? ⟨w.heap.size + 1, 2, none⟩ = some (.slice d2 nd2 cd2) := by rw [← hW]; (first | (go_simp; done) | (simp; done) | (simp [go_sem]; done) | (simp [go_sem]; done))
  have f_A : ∀ o, W0.frozen? ⟨w.heap.size + 1, o, none⟩ = false := by intro o; rw [← hW]; (first | (go_simp; done) | (simp; done) | (simp [go_sem]; done) | (simp [go_sem]; done))
  have HX_A := Lib.hid (show Bn W0 (w.heap.size + 1) by rw [← hW]; exact KpA)
  have k_Q_0 : W0.cell? ⟨w.heap.size + 1 + 1, 0, none⟩ = some (.bool s3) := by rw [← hW]; (first | (go_simp; done) | (simp; done) | (simp [go_sem]; done) | (simp [go_sem]; done))
  have k_Q_1 : W0.cell? ⟨w.heap.size + 1 + 1, 1, none⟩ = some (.slice a3 na3 ca3) := by rw [← hW]; (first | (go_simp; done) | (simp; done) | (simp [go_sem]; done) | (simp [go_sem]; done))
  have k_Q_2 : W0.cell? ⟨w.heap.size + 1 + 1, 2, none⟩ = some (.slice d3 nd3 cd3) := by rw [← hW]; (first | (go_simp; done) | (simp; done) | (simp [go_sem]; done) | (simp [go_sem]; done))
  have f_Q : ∀ o, W0.frozen? ⟨w.heap.size + 1 + 1, o, none⟩ = false := by intro o; rw [← hW]; (first | (go_simp; done) | (simp; done) | (simp [go_sem]; done) | (simp [go_sem]; done))
  have HX_Q := Lib.hid (show Bn W0 (w.heap.size + 1 + 1) by rw [← hW]; exact KpA)
  replace HB := Lib.hid (show Below w.heap.size w W0 by rw [← hW]; exact BlA)
  replace hN : N ≤ W0.heap.size := by rw [← hW]; (first | omega | (simp; done) | (simp; omega))
  have hs0 : w.heap.size ≤ W0.heap.size := by rw [← hW]; (first | omega | (simp; done) | (simp; omega))
  have hl_M : w.heap.size < W0.heap.size := by rw [← hW]; (first | omega | (simp; done) | (simp; omega))
  have hl_A : w.heap.size + 1 < W0.heap.size := by rw [← hW]; (first | omega | (simp; done) | (simp; omega))
  have hl_Q : w.heap.size + 1 + 1 < W0.heap.size := by rw [← hW]; (first | omega | (simp; done) | (simp; omega))
  replace HA := Lib.hid (HA.out.below HL_W0.out)
  replace HT := Lib.hid (HT.out.below HL_W0.out)
  replace HAL := Lib.hid (HAL.out.below HL_W0.out)
  replace HBE := Lib.hid (HBE.out.below HL_W0.out)
  replace HP := Lib.hid (HP.out.below HL_W0.out)
  replace HI := Lib.hid (HI.out.below HL_W0.out)
  replace HC := Lib.hid (HC.out.below HL_W0.out)
  replace HF := Lib.hid (HF.out.below HL_W0.out)
  clear HL_W0
  clear hW
  refine (few_any _ _ _ z _ HA.out).mono ?_
  rintro e wa ⟨p, m, cp, t, rfl, hm6, htz, hbd, hb⟩
  have hs_wa : W0.heap.size ≤ wa.heap.size := hb.size
  replace k_M_0 : wa.cell? ⟨w.heap.size, 0, none⟩ = some (.slice pa P pc) := (hb.cell (p := ⟨w.heap.size, 0, none⟩) hl_M).trans k_M_0
  replace k_M_1 : wa.cell? ⟨w.heap.size, 1, none⟩ = some (.slice ia I ic) := (hb.cell (p := ⟨w.heap.size, 1, none⟩) hl_M).trans k_M_1
  replace k_M_2 : wa.cell? ⟨w.heap.size, 2, none⟩ = some (.slice ca R cc) := (hb.cell (p := ⟨w.heap.size, 2, none⟩) hl_M).trans k_M_2
  replace f_M : ∀ o, wa.frozen? ⟨w.heap.size, o, none⟩ = false := fun o => (hb.frozen (p := ⟨w.heap.size, o, none⟩) hl_M).trans (f_M o)
  replace HX_M := Lib.hid (HX_M.out.below hb)
  replace k_A_0 : wa.cell? ⟨w.heap.size + 1, 0, none⟩ = some (.bool s2) := (hb.cell (p := ⟨w.heap.size + 1, 0, none⟩) hl_A).trans k_A_0
  replace k_A_1 : wa.cell? ⟨w.heap.size + 1, 1, none⟩ = some (.slice a2 na2 ca2) := (hb.cell (p := ⟨w.heap.size + 1, 1, none⟩) hl_A).trans k_A_1
  replace k_A_2 : wa.cell? ⟨w.heap.size + 1, 2, none⟩ = some (.slice d2 nd2 cd2) := (hb.cell (p := ⟨w.heap.size + 1, 2, none⟩) hl_A).trans k_A_2
  replace f_A : ∀ o, wa.frozen? ⟨w.heap.size + 1, o, none⟩ = false := fun o => (hb.frozen (p := ⟨w.heap.size + 1, o, none⟩) hl_A).trans (f_A o)
  replace HX_A := Lib.hid (HX_A.out.below hb)
  replace k_Q_0 : wa.cell? ⟨w.heap.size + 1 + 1, 0, none⟩ = some (.bool s3) := (hb.cell (p := ⟨w.heap.size + 1 + 1, 0, none⟩) hl_Q).trans k_Q_0
  replace k_Q_1 : wa.cell? ⟨w.heap.size + 1 + 1, 1, none⟩ = some (.slice a3 na3 ca3) := (hb.cell (p := ⟨w.heap.size + 1 + 1, 1, none⟩) hl_Q).trans k_Q_1
  replace k_Q_2 : wa.cell? ⟨w.heap.size + 1 + 1, 2, none⟩ = some (.slice d3 nd3 cd3) := (hb.cell (p := ⟨w.heap.size + 1 + 1, 2, none⟩) hl_Q).trans k_Q_2
  replace f_Q : ∀ o, wa.frozen? ⟨w.heap.size + 1 + 1, o, none⟩ = false := fun o => (hb.frozen (p := ⟨w.heap.size + 1 + 1, o, none⟩) hl_Q).trans (f_Q o)
  replace HX_Q := Lib.hid (HX_Q.out.below hb)
  replace HB := Lib.hid (HB.out.trans (hb.mono hs0))
  replace hN : N ≤ wa.heap.size := Nat.le_trans hN hb.size
  replace hs0 : w.heap.size ≤ wa.heap.size := Nat.le_trans hs0 hb.size
  replace hl_M : w.heap.size < wa.heap.size := Nat.lt_of_lt_of_le hl_M hb.size
  replace hl_A : w.heap.size + 1 < wa.heap.size := Nat.lt_of_lt_of_le hl_A hb.size
  replace hl_Q : w.heap.size + 1 + 1 < wa.heap.size := Nat.lt_of_lt_of_le hl_Q hb.size
  replace HA := Lib.hid (HA.out.below hb)
  replace HT := Lib.hid (HT.out.below hb)
  replace HAL := Lib.hid (HAL.out.below hb)
  replace HBE := Lib.hid (HBE.out.below hb)
  replace HP := Lib.hid (HP.out.below hb)
  replace HI := Lib.hid (HI.out.below hb)
  replace HC := Lib.hid (HC.out.below hb)
  replace HF := Lib.hid (HF.out.below hb)
  clear hb
  have HTZ := Lib.hid htz
  have pc1 := htz.1
  have pc2 := htz.2.1
  unfold maxLen at pc2
  have HBD := Lib.hid (show sm6 t m from hbd)
  clear htz hbd
  clear HA
  go_wp2_with fail
  obtain ⟨ca', hca⟩ : ∃ d, claS (tstS t m) al (sQ (onmS t) m) (sQ (odnS t) m) = d := ⟨_, rfl⟩
  obtain ⟨cb', hcb⟩ : ∃ d, claS (tstS t m) be (sQ (onmS t) m) (sQ (odnS t) m) = d := ⟨_, rfl⟩
  have HCA := Lib.hid hca
  have HCB := Lib.hid hcb
  have HMO := Lib.hid (fun (h : al ≤ be) (h0 : ca' ≠ 0) => (show cb' = ca' by rw [← hca, ← hcb]; exact claS_more _ _ _ _ _ h (by rw [hca]; exact h0)))
  clear hca hcb
  obtain ⟨κ, hκ⟩ : ∃ κ, cmpQ al be = κ := ⟨_, rfl⟩
  have HK := Lib.hid hκ
  clear hκ
  refine calls_name fun W1 hW => ?_
  have HL_W1 := Lib.hid (show Below wa.heap.size wa W1 by rw [← hW]; exact BlA)
  have hs_W1 : wa.heap.size ≤ W1.heap.size := by rw [← hW]; (first | omega | (simp; done) | (simp; omega))
  replace k_M_0 : W1.cell? ⟨w.heap.size, 0, none⟩ = some (.slice pa P pc) := (HL_W1.out.cell (p := ⟨w.heap.size, 0, none⟩) hl_M).trans k_M_0
  replace k_M_1 : W1.cell? ⟨w.heap.size, 1, none⟩ = some (.slice ia I ic) := (HL_W1.out.cell (p := ⟨w.heap.size, 1, none⟩) hl_M).trans k_M_1
  replace k_M_2 : W1.cell? ⟨w.heap.size, 2, none⟩ = some (.slice ca R cc) := (HL_W1.out.cell (p := ⟨w.heap.size, 2, none⟩) hl_M).trans k_M_2
  replace f_M : ∀ o, W1.frozen? ⟨w.heap.size, o, none⟩ = false := fun o => (HL_W1.out.frozen (p := ⟨w.heap.size, o, none⟩) hl_M).trans (f_M o)
  replace HX_M := Lib.hid (show Bn W1 (w.heap.size) by rw [← hW]; exact KpA)
  replace k_A_0 : W1.cell? ⟨w.heap.size + 1, 0, none⟩ = some (.bool s2) := (HL_W1.out.cell (p := ⟨w.heap.size + 1, 0, none⟩) hl_A).trans k_A_0
  replace k_A_1 : W1.cell? ⟨w.heap.size + 1, 1, none⟩ = some (.slice a2 na2 ca2) := (HL_W1.out.cell (p := ⟨w.heap.size + 1, 1, none⟩) hl_A).trans k_A_1
  replace k_A_2 : W1.cell? ⟨w.heap.size + 1, 2, none⟩ = some (.slice d2 nd2 cd2) := (HL_W1.out.cell (p := ⟨w.heap.size + 1, 2, none⟩) hl_A).trans k_A_2
  replace f_A : ∀ o, W1.frozen? ⟨w.heap.size + 1, o, none⟩ = false := fun o => (HL_W1.out.frozen (p := ⟨w.heap.size + 1, o, none⟩) hl_A).trans (f_A o)
  replace HX_A := Lib.hid (show Bn W1 (w.heap.size + 1) by rw [← hW]; exact KpA)
  replace k_Q_0 : W1.cell? ⟨w.heap.size + 1 + 1, 0, none⟩ = some (.bool s3) := (HL_W1.out.cell (p := ⟨w.heap.size + 1 + 1, 0, none⟩) hl_Q).trans k_Q_0
  replace k_Q_1 : W1.cell? ⟨w.heap.size + 1 + 1, 1, none⟩ = some (.slice a3 na3 ca3) := (HL_W1.out.cell (p := ⟨w.heap.size + 1 + 1, 1, none⟩) hl_Q).trans k_Q_1
  replace k_Q_2 : W1.cell? ⟨w.heap.size + 1 + 1, 2, none⟩ = some (.slice d3 nd3 cd3) := (HL_W1.out.cell (p := ⟨w.heap.size + 1 + 1, 2, none⟩) hl_Q).trans k_Q_2
  replace f_Q : ∀ o, W1.frozen? ⟨w.heap.size + 1 + 1, o, none⟩ = false := fun o => (HL_W1.out.frozen (p := ⟨w.heap.size + 1 + 1, o, none⟩) hl_Q).trans (f_Q o)
  replace HX_Q := Lib.hid (show Bn W1 (w.heap.size + 1 + 1) by rw [← hW]; exact KpA)
  replace HB := Lib.hid (show Below w.heap.size w W1 by rw [← hW]; exact BlA)
  replace hN : N ≤ W1.heap.size := by rw [← hW]; (first | omega | (simp; done) | (simp; omega))
  replace hs0 : w.heap.size ≤ W1.heap.size := by rw [← hW]; (first | omega | (simp; done) | (simp; omega))
  replace hl_M : w.heap.size < W1.heap.size := by rw [← hW]; (first | omega | (simp; done) | (simp; omega))
  replace hl_A : w.heap.size + 1 < W1.heap.size := by rw [← hW]; (first | omega | (simp; done) | (simp; omega))
  replace hl_Q : w.heap.size + 1 + 1 < W1.heap.size := by rw [← hW]; (first | omega | (simp; done) | (simp; omega))
  replace HT := Lib.hid (HT.out.below HL_W1.out)
  replace HAL := Lib.hid (HAL.out.below HL_W1.out)
  replace HBE := Lib.hid (HBE.out.below HL_W1.out)
  replace HP := Lib.hid (HP.out.below HL_W1.out)
  replace HI := Lib.hid (HI.out.below HL_W1.out)
  replace HC := Lib.hid (HC.out.below HL_W1.out)
  replace HF := Lib.hid (HF.out.below HL_W1.out)
  replace HTZ := Lib.hid (HTZ.out.below HL_W1.out)
  clear HL_W1
  clear hW
  refine (class_gen (N := N) _ m _ t _ hN HTZ.out (by omega) HBD.out.cnt (HBD.out.sup hm6) _ _ _ _ _ _ _ L al HAL.out hL ca' HCA.out).mono ?_
  rintro e wb ⟨x, ec, rfl, hx, hb⟩
  have hs_wb : W1.heap.size ≤ wb.heap.size := hb.size
  replace k_M_0 : wb.cell? ⟨w.heap.size, 0, none⟩ = some (.slice pa P pc) := (hb.cell (p := ⟨w.heap.size, 0, none⟩) hl_M).trans k_M_0
  replace k_M_1 : wb.cell? ⟨w.heap.size, 1, none⟩ = some (.slice ia I ic) := (hb.cell (p := ⟨w.heap.size, 1, none⟩) hl_M).trans k_M_1
  replace k_M_2 : wb.cell? ⟨w.heap.size, 2, none⟩ = some (.slice ca R cc) := (hb.cell (p := ⟨w.heap.size, 2, none⟩) hl_M).trans k_M_2
  replace f_M : ∀ o, wb.frozen? ⟨w.heap.size, o, none⟩ = false := fun o => (hb.frozen (p := ⟨w.heap.size, o, none⟩) hl_M).trans (f_M o)
  replace HX_M := Lib.hid (HX_M.out.below hb)
  replace k_A_0 : wb.cell? ⟨w.heap.size + 1, 0, none⟩ = some (.bool s2) := (hb.cell (p := ⟨w.heap.size + 1, 0, none⟩) hl_A).trans k_A_0
  replace k_A_1 : wb.cell? ⟨w.heap.size + 1, 1, none⟩ = some (.slice a2 na2 ca2) := (hb.cell (p := ⟨w.heap.size + 1, 1, none⟩) hl_A).trans k_A_1
  replace k_A_2 : wb.cell? ⟨w.heap.size + 1, 2, none⟩ = some (.slice d2 nd2 cd2) := (hb.cell (p := ⟨w.heap.size + 1, 2, none⟩) hl_A).trans k_A_2
  replace f_A : ∀ o, wb.frozen? ⟨w.heap.size + 1, o, none⟩ = false := fun o => (hb.frozen (p := ⟨w.heap.size + 1, o, none⟩) hl_A).trans (f_A o)
  replace HX_A := Lib.hid (HX_A.out.below hb)
  replace k_Q_0 : wb.cell? ⟨w.heap.size + 1 + 1, 0, none⟩ = some (.bool s3) := (hb.cell (p := ⟨w.heap.size + 1 + 1, 0, none⟩) hl_Q).trans k_Q_0
  replace k_Q_1 : wb.cell? ⟨w.heap.size + 1 + 1, 1, none⟩ = some (.slice a3 na3 ca3) := (hb.cell (p := ⟨w.heap.size + 1 + 1, 1, none⟩) hl_Q).trans k_Q_1
  replace k_Q_2 : wb.cell? ⟨w.heap.size + 1 + 1, 2, none⟩ = some (.slice d3 nd3 cd3) := (hb.cell (p := ⟨w.heap.size + 1 + 1, 2, none⟩) hl_Q).trans k_Q_2
  replace f_Q : ∀ o, wb.frozen? ⟨w.heap.size + 1 + 1, o, none⟩ = false := fun o => (hb.frozen (p := ⟨w.heap.size + 1 + 1, o, none⟩) hl_Q).trans (f_Q o)
  replace HX_Q := Lib.hid (HX_Q.out.below hb)
  replace HB := Lib.hid (HB.out.trans (hb.mono hs0))
  replace hN : N ≤ wb.heap.size := Nat.le_trans hN hb.size
  replace hs0 : w.heap.size ≤ wb.heap.size := Nat.le_trans hs0 hb.size
  replace hl_M : w.heap.size < wb.heap.size := Nat.lt_of_lt_of_le hl_M hb.size
  replace hl_A : w.heap.size + 1 < wb.heap.size := Nat.lt_of_lt_of_le hl_A hb.size
  replace hl_Q : w.heap.size + 1 + 1 < wb.heap.size := Nat.lt_of_lt_of_le hl_Q hb.size
  replace HT := Lib.hid (HT.out.below hb)
  replace HAL := Lib.hid (HAL.out.below hb)
  replace HBE := Lib.hid (HBE.out.below hb)
  replace HP := Lib.hid (HP.out.below hb)
  replace HI := Lib.hid (HI.out.below hb)
  replace HC := Lib.hid (HC.out.below hb)
  replace HF := Lib.hid (HF.out.below hb)
  replace HTZ := Lib.hid (HTZ.out.below hb)
  clear hb
  have HX := Lib.hid hx
  clear hx
  go_wp2_with fail
  refine calls_name fun W2 hW => ?_
  have HL_W2 := Lib.hid (show Below wb.heap.size wb W2 by rw [← hW]; exact BlA)
  have hs_W2 : wb.heap.size ≤ W2.heap.size := by rw [← hW]; (first | omega | (simp; done) | (simp; omega))
  replace k_M_0 : W2.cell? ⟨w.heap.size, 0, none⟩ = some (.slice pa P pc) := (HL_W2.out.cell (p := ⟨w.heap.size, 0, none⟩) hl_M).trans k_M_0
  replace k_M_1 : W2.cell? ⟨w.heap.size, 1, none⟩ = some (.slice ia I ic) := (HL_W2.out.cell (p := ⟨w.heap.size, 1, none⟩) hl_M).trans k_M_1
  replace k_M_2 : W2.cell? ⟨w.heap.size, 2, none⟩ = some (.slice ca R cc) := (HL_W2.out.cell (p := ⟨w.heap.size, 2, none⟩) hl_M).trans k_M_2
  replace f_M : ∀ o, W2.frozen? ⟨w.heap.size, o, none⟩ = false := fun o => (HL_W2.out.frozen (p := ⟨w.heap.size, o, none⟩) hl_M).trans (f_M o)
  replace HX_M := Lib.hid (show Bn W2 (w.heap.size) by rw [← hW]; exact KpA)
  replace k_A_0 : W2.cell? ⟨w.heap.size + 1, 0, none⟩ = some (.bool s2) := (HL_W2.out.cell (p := ⟨w.heap.size + 1, 0, none⟩) hl_A).trans k_A_0
  replace k_A_1 : W2.cell? ⟨w.heap.size + 1, 1, none⟩ = some (.slice a2 na2 ca2) := (HL_W2.out.cell (p := ⟨w.heap.size + 1, 1, none⟩) hl_A).trans k_A_1
  replace k_A_2 : W2.cell? ⟨w.heap.size + 1, 2, none⟩ = some (.slice d2 nd2 cd2) := (HL_W2.out.cell (p := ⟨w.heap.size + 1, 2, none⟩) hl_A).trans k_A_2
  replace f_A : ∀ o, W2.frozen? ⟨w.heap.size + 1, o, none⟩ = false := fun o => (HL_W2.out.frozen (p := ⟨w.heap.size + 1, o, none⟩) hl_A).trans (f_A o)
  replace HX_A := Lib.hid (show Bn W2 (w.heap.size + 1) by rw [← hW]; exact KpA)
  replace k_Q_0 : W2.cell? ⟨w.heap.size + 1 + 1, 0, none⟩ = some (.bool s3) := (HL_W2.out.cell (p := ⟨w.heap.size + 1 + 1, 0, none⟩) hl_Q).trans k_Q_0
  replace k_Q_1 : W2.cell? ⟨w.heap.size + 1 + 1, 1, none⟩ = some (.slice a3 na3 ca3) := (HL_W2.out.cell (p := ⟨w.heap.size + 1 + 1, 1, none⟩) hl_Q).trans k_Q_1
  replace k_Q_2 : W2.cell? ⟨w.heap.size + 1 + 1, 2, none⟩ = some (.slice d3 nd3 cd3) := (HL_W2.out.cell (p := ⟨w.heap.size + 1 + 1, 2, none⟩) hl_Q).trans k_Q_2
  replace f_Q : ∀ o, W2.frozen? ⟨w.heap.size + 1 + 1, o, none⟩ = false := fun o => (HL_W2.out.frozen (p := ⟨w.heap.size + 1 + 1, o, none⟩) hl_Q).trans (f_Q o)
  replace HX_Q := Lib.hid (show Bn W2 (w.heap.size + 1 + 1) by rw [← hW]; exact KpA)
  replace HB := Lib.hid (show Below w.heap.size w W2 by rw [← hW]; exact BlA)
  replace hN : N ≤ W2.heap.size := by rw [← hW]; (first | omega | (simp; done) | (simp; omega))
  replace hs0 : w.heap.size ≤ W2.heap.size := by rw [← hW]; (first | omega | (simp; done) | (simp; omega))
  replace hl_M : w.heap.size < W2.heap.size := by rw [← hW]; (first | omega | (simp; done) | (simp; omega))
  replace hl_A : w.heap.size + 1 < W2.heap.size := by rw [← hW]; (first | omega | (simp; done) | (simp; omega))
  replace hl_Q : w.heap.size + 1 + 1 < W2.heap.size := by rw [← hW]; (first | omega | (simp; done) | (simp; omega))
  replace HT := Lib.hid (HT.out.below HL_W2.out)
  replace HAL := Lib.hid (HAL.out.below HL_W2.out)
  replace HBE := Lib.hid (HBE.out.below HL_W2.out)
  replace HP := Lib.hid (HP.out.below HL_W2.out)
  replace HI := Lib.hid (HI.out.below HL_W2.out)
  replace HC := Lib.hid (HC.out.below HL_W2.out)
  replace HF := Lib.hid (HF.out.below HL_W2.out)
  replace HTZ := Lib.hid (HTZ.out.below HL_W2.out)
  clear HL_W2
  clear hW
  refine (class_gen (N := N) _ m _ t _ hN HTZ.out (by omega) HBD.out.cnt (HBD.out.sup hm6) _ _ _ _ _ _ _ L be HBE.out hL cb' HCB.out).mono ?_
  rintro e wv ⟨y, ed, rfl, hy, hb⟩
  have hs_wv : W2.heap.size ≤ wv.heap.size := hb.size
  replace k_M_0 : wv.cell? ⟨w.heap.size, 0, none⟩ = some (.slice pa P pc) := (hb.cell (p := ⟨w.heap.size, 0, none⟩) hl_M).trans k_M_0
  replace k_M_1 : wv.cell? ⟨w.heap.size, 1, none⟩ = some (.slice ia I ic) := (hb.cell (p := ⟨w.heap.size, 1, none⟩) hl_M).trans k_M_1
  replace k_M_2 : wv.cell? ⟨w.heap.size, 2, none⟩ = some (.slice ca R cc) := (hb.cell (p := ⟨w.heap.size, 2, none⟩) hl_M).trans k_M_2
  replace f_M : ∀ o, wv.frozen? ⟨w.heap.size, o, none⟩ = false := fun o => (hb.frozen (p := ⟨w.heap.size, o, none⟩) hl_M).trans (f_M o)
  replace HX_M := Lib.hid (HX_M.out.below hb)
  replace k_A_0 : wv.cell? ⟨w.heap.size + 1, 0, none⟩ = some (.bool s2) := (hb.cell (p := ⟨w.heap.size + 1, 0, none⟩) hl_A).trans k_A_0
  replace k_A_1 : wv.cell? ⟨w.heap.size + 1, 1, none⟩ = some (.slice a2 na2 ca2) := (hb.cell (p := ⟨w.heap.size + 1, 1, none⟩) hl_A).trans k_A_1
  replace k_A_2 : wv.cell? ⟨w.heap.size + 1, 2, none⟩ = some (.slice d2 nd2 cd2) := (hb.cell (p := ⟨w.heap.size + 1, 2, none⟩) hl_A).trans k_A_2
  replace f_A : ∀ o, wv.frozen? ⟨w.heap.size + 1, o, none⟩ = false := fun o => (hb.frozen (p := ⟨w.heap.size + 1, o, none⟩) hl_A).trans (f_A o)
  replace HX_A := Lib.hid (HX_A.out.below hb)
  replace k_Q_0 : wv.cell? ⟨w.heap.size + 1 + 1, 0, none⟩ = some (.bool s3) := (hb.cell (p := ⟨w.heap.size + 1 + 1, 0, none⟩) hl_Q).trans k_Q_0
  replace k_Q_1 : wv.cell? ⟨w.heap.size + 1 + 1, 1, none⟩ = some (.slice a3 na3 ca3) := (hb.cell (p := ⟨w.heap.size + 1 + 1, 1, none⟩) hl_Q).trans k_Q_1
  replace k_Q_2 : wv.cell? ⟨w.heap.size + 1 + 1, 2, none⟩ = some (.slice d3 nd3 cd3) := (hb.cell (p := ⟨w.heap.size + 1 + 1, 2, none⟩) hl_Q).trans k_Q_2
  replace f_Q : ∀ o, wv.frozen? ⟨w.heap.size + 1 + 1, o, none⟩ = false := fun o => (hb.frozen (p := ⟨w.heap.size + 1 + 1, o, none⟩) hl_Q).trans (f_Q o)
  replace HX_Q := Lib.hid (HX_Q.out.below hb)
  replace HB := Lib.hid (HB.out.trans (hb.mono hs0))
  replace hN : N ≤ wv.heap.size := Nat.le_trans hN hb.size
  replace hs0 : w.heap.size ≤ wv.heap.size := Nat.le_trans hs0 hb.size
  replace hl_M : w.heap.size < wv.heap.size := Nat.lt_of_lt_of_le hl_M hb.size
  replace hl_A : w.heap.size + 1 < wv.heap.size := Nat.lt_of_lt_of_le hl_A hb.size
  replace hl_Q : w.heap.size + 1 + 1 < wv.heap.size := Nat.lt_of_lt_of_le hl_Q hb.size
  replace HT := Lib.hid (HT.out.below hb)
  replace HAL := Lib.hid (HAL.out.below hb)
  replace HBE := Lib.hid (HBE.out.below hb)
  replace HP := Lib.hid (HP.out.below hb)
  replace HI := Lib.hid (HI.out.below hb)
  replace HC := Lib.hid (HC.out.below hb)
  replace HF := Lib.hid (HF.out.below hb)
  replace HTZ := Lib.hid (HTZ.out.below hb)
  clear hb
  have HY := Lib.hid hy
  clear hy
  go_upto_region 4 with fail
  refine block_nameC fun W3 hW => ?_
  have HL_W3 := Lib.hid (show Below wv.heap.size wv W3 by rw [← hW]; exact BlA)
  have hs_W3 : wv.heap.size ≤ W3.heap.size := by rw [← hW]; (first | omega | (simp; done) | (simp; omega))
  replace k_M_0 : W3.cell? ⟨w.heap.size, 0, none⟩ = some (.slice pa P pc) := (HL_W3.out.cell (p := ⟨w.heap.size, 0, none⟩) hl_M).trans k_M_0
  replace k_M_1 : W3.cell? ⟨w.heap.size, 1, none⟩ = some (.slice ia I ic) := (HL_W3.out.cell (p := ⟨w.heap.size, 1, none⟩) hl_M).trans k_M_1
  replace k_M_2 : W3.cell? ⟨w.heap.size, 2, none⟩ = some (.slice ca R cc) := (HL_W3.out.cell (p := ⟨w.heap.size, 2, none⟩) hl_M).trans k_M_2
  replace f_M : ∀ o, W3.frozen? ⟨w.heap.size, o, none⟩ = false := fun o => (HL_W3.out.frozen (p := ⟨w.heap.size, o, none⟩) hl_M).trans (f_M o)
  replace HX_M := Lib.hid (show Bn W3 (w.heap.size) by rw [← hW]; exact KpA)
  replace k_A_0 : W3.cell? ⟨w.heap.size + 1, 0, none⟩ = some (.bool s2) := (HL_W3.out.cell (p := ⟨w.heap.size + 1, 0, none⟩) hl_A).trans k_A_0
  replace k_A_1 : W3.cell? ⟨w.heap.size + 1, 1, none⟩ = some (.slice a2 na2 ca2) := (HL_W3.out.cell (p := ⟨w.heap.size + 1, 1, none⟩) hl_A).trans k_A_1
  replace k_A_2 : W3.cell? ⟨w.heap.size + 1, 2, none⟩ = some (.slice d2 nd2 cd2) := (HL_W3.out.cell (p := ⟨w.heap.size + 1, 2, none⟩) hl_A).trans k_A_2
  replace f_A : ∀ o, W3.frozen? ⟨w.heap.size + 1, o, none⟩ = false := fun o => (HL_W3.out.frozen (p := ⟨w.heap.size + 1, o, none⟩) hl_A).trans (f_A o)
  replace HX_A := Lib.hid (show Bn W3 (w.heap.size + 1) by rw [← hW]; exact KpA)
  replace k_Q_0 : W3.cell? ⟨w.heap.size + 1 + 1, 0, none⟩ = some (.bool s3) := (HL_W3.out.cell (p := ⟨w.heap.size + 1 + 1, 0, none⟩) hl_Q).trans k_Q_0
  replace k_Q_1 : W3.cell? ⟨w.heap.size + 1 + 1, 1, none⟩ = some (.slice a3 na3 ca3) := (HL_W3.out.cell (p := ⟨w.heap.size + 1 + 1, 1, none⟩) hl_Q).trans k_Q_1
  replace k_Q_2 : W3.cell? ⟨w.heap.size + 1 + 1, 2, none⟩ = some (.slice d3 nd3 cd3) := (HL_W3.out.cell (p := ⟨w.heap.size + 1 + 1, 2, none⟩) hl_Q).trans k_Q_2
  replace f_Q : ∀ o, W3.frozen? ⟨w.heap.size + 1 + 1, o, none⟩ = false := fun o => (HL_W3.out.frozen (p := ⟨w.heap.size + 1 + 1, o, none⟩) hl_Q).trans (f_Q o)
  replace HX_Q := Lib.hid (show Bn W3 (w.heap.size + 1 + 1) by rw [← hW]; exact KpA)
  replace HB := Lib.hid (show Below w.heap.size w W3 by rw [← hW]; exact BlA)
  replace hN : N ≤ W3.heap.size := by rw [← hW]; (first | omega | (simp; done) | (simp; omega))
  replace hs0 : w.heap.size ≤ W3.heap.size := by rw [← hW]; (first | omega | (simp; done) | (simp; omega))
  replace hl_M : w.heap.size < W3.heap.size := by rw [← hW]; (first | omega | (simp; done) | (simp; omega))
  replace hl_A : w.heap.size + 1 < W3.heap.size := by rw [← hW]; (first | omega | (simp; done) | (simp; omega))
  replace hl_Q : w.heap.size + 1 + 1 < W3.heap.size := by rw [← hW]; (first | omega | (simp; done) | (simp; omega))
  replace HT := Lib.hid (HT.out.below HL_W3.out)
  replace HAL := Lib.hid (HAL.out.below HL_W3.out)
  replace HBE := Lib.hid (HBE.out.below HL_W3.out)
  replace HP := Lib.hid (HP.out.below HL_W3.out)
  replace HI := Lib.hid (HI.out.below HL_W3.out)
  replace HC := Lib.hid (HC.out.below HL_W3.out)
  replace HF := Lib.hid (HF.out.below HL_W3.out)
  replace HTZ := Lib.hid (HTZ.out.below HL_W3.out)
  clear HL_W3
  clear hW
  go_cut [56] (fun c wx => c = .bool false ∧ Below W3.heap.size W3 wx)
  case first =>
    by_cases ec0 : ec = 0
    · by_cases ed0 : ed = 0
      · have HXE := Lib.hid (HX.out ec0)
        have HYE := Lib.hid (HY.out ed0)
        subst ec0 ed0
        go_wp2_with fail
        refine (rcmp_any (N := N) _ _ _ _ _ _ _ _ _ _ _ _ _ _ L L al be _ hN HAL.out HBE.out (by omega) (by omega)).mono ?_
        rw [HK.out]
        rintro e wd ⟨rfl, hb⟩
        have hs_wd : W3.heap.size ≤ wd.heap.size := hb.size
        skip
        replace k_M_0 : wd.cell? ⟨w.heap.size, 0, none⟩ = some (.slice pa P pc) := (hb.cell (p := ⟨w.heap.size, 0, none⟩) hl_M).trans k_M_0
        replace k_M_1 : wd.cell? ⟨w.heap.size, 1, none⟩ = some (.slice ia I ic) := (hb.cell (p := ⟨w.heap.size, 1, none⟩) hl_M).trans k_M_1
        replace k_M_2 : wd.cell? ⟨w.heap.size, 2, none⟩ = some (.slice ca R cc) := (hb.cell (p := ⟨w.heap.size, 2, none⟩) hl_M).trans k_M_2
        replace f_M : ∀ o, wd.frozen? ⟨w.heap.size, o, none⟩ = false := fun o => (hb.frozen (p := ⟨w.heap.size, o, none⟩) hl_M).trans (f_M o)
        replace HX_M := Lib.hid (HX_M.out.below hb)
        replace k_A_0 : wd.cell? ⟨w.heap.size + 1, 0, none⟩ = some (.bool s2) := (hb.cell (p := ⟨w.heap.size + 1, 0, none⟩) hl_A).trans k_A_0
        replace k_A_1 : wd.cell? ⟨w.heap.size + 1, 1, none⟩ = some (.slice a2 na2 ca2) := (hb.cell (p := ⟨w.heap.size + 1, 1, none⟩) hl_A).trans k_A_1
        replace k_A_2 : wd.cell? ⟨w.heap.size + 1, 2, none⟩ = some (.slice d2 nd2 cd2) := (hb.cell (p := ⟨w.heap.size + 1, 2, none⟩) hl_A).trans k_A_2
        replace f_A : ∀ o, wd.frozen? ⟨w.heap.size + 1, o, none⟩ = false := fun o => (hb.frozen (p := ⟨w.heap.size + 1, o, none⟩) hl_A).trans (f_A o)
        replace HX_A := Lib.hid (HX_A.out.below hb)
        replace k_Q_0 : wd.cell? ⟨w.heap.size + 1 + 1, 0, none⟩ = some (.bool s3) := (hb.cell (p := ⟨w.heap.size + 1 + 1, 0, none⟩) hl_Q).trans k_Q_0
        replace k_Q_1 : wd.cell? ⟨w.heap.size + 1 + 1, 1, none⟩ = some (.slice a3 na3 ca3) := (hb.cell (p := ⟨w.heap.size + 1 + 1, 1, none⟩) hl_Q).trans k_Q_1
        replace k_Q_2 : wd.cell? ⟨w.heap.size + 1 + 1, 2, none⟩ = some (.slice d3 nd3 cd3) := (hb.cell (p := ⟨w.heap.size + 1 + 1, 2, none⟩) hl_Q).trans k_Q_2
        replace f_Q : ∀ o, wd.frozen? ⟨w.heap.size + 1 + 1, o, none⟩ = false := fun o => (hb.frozen (p := ⟨w.heap.size + 1 + 1, o, none⟩) hl_Q).trans (f_Q o)
        replace HX_Q := Lib.hid (HX_Q.out.below hb)
        replace HB := Lib.hid (HB.out.trans (hb.mono hs0))
        replace hN : N ≤ wd.heap.size := Nat.le_trans hN hb.size
        replace hs0 : w.heap.size ≤ wd.heap.size := Nat.le_trans hs0 hb.size
        replace hl_M : w.heap.size < wd.heap.size := Nat.lt_of_lt_of_le hl_M hb.size
        replace hl_A : w.heap.size + 1 < wd.heap.size := Nat.lt_of_lt_of_le hl_A hb.size
        replace hl_Q : w.heap.size + 1 + 1 < wd.heap.size := Nat.lt_of_lt_of_le hl_Q hb.size
        replace HT := Lib.hid (HT.out.below hb)
        replace HAL := Lib.hid (HAL.out.below hb)
        replace HBE := Lib.hid (HBE.out.below hb)
        replace HP := Lib.hid (HP.out.below hb)
        replace HI := Lib.hid (HI.out.below hb)
        replace HC := Lib.hid (HC.out.below hb)
        replace HF := Lib.hid (HF.out.below hb)
        replace HTZ := Lib.hid (HTZ.out.below hb)
        by_cases k0 : κ ≤ 0
        · have HMO2 := Lib.hid (HMO.out (le_of_cmp (by rw [HK.out]; exact k0)))
          by_cases hx0 : x = 0
          · subst hx0
            go_wp2_with fail
            go_meet
            exact ⟨rfl, hb⟩
          · have e1 : y = x := by rw [HXE.out, HYE.out]; exact HMO2.out (by rw [← HXE.out]; exact hx0)
            subst e1
            have zb : (y == 0) = false := by simpa using hx0
            have zc : (y != 0) = true := by simpa using hx0
            go_wp2_with fail
            go_meet
            exact ⟨rfl, hb⟩
        · go_wp2_with fail
          go_meet
          exact ⟨rfl, hb⟩
      · subst ec0
        have zb : (ed == 0) = false := by simpa using ed0
        go_wp2_with fail
        go_meet
        exact ⟨rfl, Below.refl _ _⟩
    · have zb : (ec == 0) = false := by simpa using ec0
      go_wp2_with fail
      go_meet
      exact ⟨rfl, Below.refl _ _⟩
  case rest =>
    obtain ⟨wx, rfl⟩ : ∃ wx : World, wx = wc := ⟨_, rfl⟩
    obtain ⟨rfl, hb⟩ := hcut
    have hs_wx : W3.heap.size ≤ wx.heap.size := hb.size
    replace k_M_0 : wx.cell? ⟨w.heap.size, 0, none⟩ = some (.slice pa P pc) := (hb.cell (p := ⟨w.heap.size, 0, none⟩) hl_M).trans k_M_0
    replace k_M_1 : wx.cell? ⟨w.heap.size, 1, none⟩ = some (.slice ia I ic) := (hb.cell (p := ⟨w.heap.size, 1, none⟩) hl_M).trans k_M_1
    replace k_M_2 : wx.cell? ⟨w.heap.size, 2, none⟩ = some (.slice ca R cc) := (hb.cell (p := ⟨w.heap.size, 2, none⟩) hl_M).trans k_M_2
    replace f_M : ∀ o, wx.frozen? ⟨w.heap.size, o, none⟩ = false := fun o => (hb.frozen (p := ⟨w.heap.size, o, none⟩) hl_M).trans (f_M o)
    replace HX_M := Lib.hid (HX_M.out.below hb)
    replace k_A_0 : wx.cell? ⟨w.heap.size + 1, 0, none⟩ = some (.bool s2) := (hb.cell (p := ⟨w.heap.size + 1, 0, none⟩) hl_A).trans k_A_0
    replace k_A_1 : wx.cell? ⟨w.heap.size + 1, 1, none⟩ = some (.slice a2 na2 ca2) := (hb.cell (p := ⟨w.heap.size + 1, 1, none⟩) hl_A).trans k_A_1
    replace k_A_2 : wx.cell? ⟨w.heap.size + 1, 2, none⟩ = some (.slice d2 nd2 cd2) := (hb.cell (p := ⟨w.heap.size + 1, 2, none⟩) hl_A).trans k_A_2
    replace f_A : ∀ o, wx.frozen? ⟨w.heap.size + 1, o, none⟩ = false := fun o => (hb.frozen (p := ⟨w.heap.size + 1, o, none⟩) hl_A).trans (f_A o)
    replace HX_A := Lib.hid (HX_A.out.below hb)
    replace k_Q_0 : wx.cell? ⟨w.heap.size + 1 + 1, 0, none⟩ = some (.bool s3) := (hb.cell (p := ⟨w.heap.size + 1 + 1, 0, none⟩) hl_Q).trans k_Q_0
    replace k_Q_1 : wx.cell? ⟨w.heap.size + 1 + 1, 1, none⟩ = some (.slice a3 na3 ca3) := (hb.cell (p := ⟨w.heap.size + 1 + 1, 1, none⟩) hl_Q).trans k_Q_1
    replace k_Q_2 : wx.cell? ⟨w.heap.size + 1 + 1, 2, none⟩ = some (.slice d3 nd3 cd3) := (hb.cell (p := ⟨w.heap.size + 1 + 1, 2, none⟩) hl_Q).trans k_Q_2
    replace f_Q : ∀ o, wx.frozen? ⟨w.heap.size + 1 + 1, o, none⟩ = false := fun o => (hb.frozen (p := ⟨w.heap.size + 1 + 1, o, none⟩) hl_Q).trans (f_Q o)
    replace HX_Q := Lib.hid (HX_Q.out.below hb)
    replace HB := Lib.hid (HB.out.trans (hb.mono hs0))
    replace hN : N ≤ wx.heap.size := Nat.le_trans hN hb.size
    replace hs0 : w.heap.size ≤ wx.heap.size := Nat.le_trans hs0 hb.size
    replace hl_M : w.heap.size < wx.heap.size := Nat.lt_of_lt_of_le hl_M hb.size
    replace hl_A : w.heap.size + 1 < wx.heap.size := Nat.lt_of_lt_of_le hl_A hb.size
    replace hl_Q : w.heap.size + 1 + 1 < wx.heap.size := Nat.lt_of_lt_of_le hl_Q hb.size
    replace HT := Lib.hid (HT.out.below hb)
    replace HAL := Lib.hid (HAL.out.below hb)
    replace HBE := Lib.hid (HBE.out.below hb)
    replace HP := Lib.hid (HP.out.below hb)
    replace HI := Lib.hid (HI.out.below hb)
    replace HC := Lib.hid (HC.out.below hb)
    replace HF := Lib.hid (HF.out.below hb)
    replace HTZ := Lib.hid (HTZ.out.below hb)
    clear hb
    clear hl_Q f_Q HX_Q k_Q_0 k_Q_1 k_Q_2
    clear HBE
    clear HTZ
    by_cases hP : P ≤ 12
    · by_cases hI : I ≤ 5
      · go_wp2_with fail
        refine calls_name fun WB1 hW => ?_
        have HL_WB1 := Lib.hid (show Below wx.heap.size wx WB1 by rw [← hW]; exact BlA)
        have hs_WB1 : wx.heap.size ≤ WB1.heap.size := by rw [← hW]; (first | omega | (simp; done) | (simp; omega))
        replace k_M_0 : WB1.cell? ⟨w.heap.size, 0, none⟩ = some (.slice pa P pc) := (HL_WB1.out.cell (p := ⟨w.heap.size, 0, none⟩) hl_M).trans k_M_0
        replace k_M_1 : WB1.cell? ⟨w.heap.size, 1, none⟩ = some (.slice ia I ic) := (HL_WB1.out.cell (p := ⟨w.heap.size, 1, none⟩) hl_M).trans k_M_1
        replace k_M_2 : WB1.cell? ⟨w.heap.size, 2, none⟩ = some (.slice ca R cc) := (HL_WB1.out.cell (p := ⟨w.heap.size, 2, none⟩) hl_M).trans k_M_2
        replace f_M : ∀ o, WB1.frozen? ⟨w.heap.size, o, none⟩ = false := fun o => (HL_WB1.out.frozen (p := ⟨w.heap.size, o, none⟩) hl_M).trans (f_M o)
        replace HX_M := Lib.hid (show Bn WB1 (w.heap.size) by rw [← hW]; exact KpA)
        replace k_A_0 : WB1.cell? ⟨w.heap.size + 1, 0, none⟩ = some (.bool s2) := (HL_WB1.out.cell (p := ⟨w.heap.size + 1, 0, none⟩) hl_A).trans k_A_0
        replace k_A_1 : WB1.cell? ⟨w.heap.size + 1, 1, none⟩ = some (.slice a2 na2 ca2) := (HL_WB1.out.cell (p := ⟨w.heap.size + 1, 1, none⟩) hl_A).trans k_A_1
        replace k_A_2 : WB1.cell? ⟨w.heap.size + 1, 2, none⟩ = some (.slice d2 nd2 cd2) := (HL_WB1.out.cell (p := ⟨w.heap.size + 1, 2, none⟩) hl_A).trans k_A_2
        replace f_A : ∀ o, WB1.frozen? ⟨w.heap.size + 1, o, none⟩ = false := fun o => (HL_WB1.out.frozen (p := ⟨w.heap.size + 1, o, none⟩) hl_A).trans (f_A o)
        replace HX_A := Lib.hid (show Bn WB1 (w.heap.size + 1) by rw [← hW]; exact KpA)
        replace HB := Lib.hid (show Below w.heap.size w WB1 by rw [← hW]; exact BlA)
        replace hN : N ≤ WB1.heap.size := by rw [← hW]; (first | omega | (simp; done) | (simp; omega))
        replace hs0 : w.heap.size ≤ WB1.heap.size := by rw [← hW]; (first | omega | (simp; done) | (simp; omega))
        replace hl_M : w.heap.size < WB1.heap.size := by rw [← hW]; (first | omega | (simp; done) | (simp; omega))
        replace hl_A : w.heap.size + 1 < WB1.heap.size := by rw [← hW]; (first | omega | (simp; done) | (simp; omega))
        replace HT := Lib.hid (HT.out.below HL_WB1.out)
        replace HAL := Lib.hid (HAL.out.below HL_WB1.out)
        replace HP := Lib.hid (HP.out.below HL_WB1.out)
        replace HI := Lib.hid (HI.out.below HL_WB1.out)
        replace HC := Lib.hid (HC.out.below HL_WB1.out)
        replace HF := Lib.hid (HF.out.below HL_WB1.out)
        clear HL_WB1
        clear hW
        refine (Purify_any (N := N) _ _ _ _ _ _ _ R _ zp zi _ _ _ zz _ hN HP.out HI.out HC.out _ _ _ f HF.out _ _ _ _ _ _ _ L al HAL.out hL hP hI (prb al) rfl).mono ?_
        rintro e wy2 ⟨hres, hb⟩
        have hs_wy2 : WB1.heap.size ≤ wy2.heap.size := hb.size
        replace k_M_0 : wy2.cell? ⟨w.heap.size, 0, none⟩ = some (.slice pa P pc) := (hb.cell (p := ⟨w.heap.size, 0, none⟩) hl_M).trans k_M_0
        replace k_M_1 : wy2.cell? ⟨w.heap.size, 1, none⟩ = some (.slice ia I ic) := (hb.cell (p := ⟨w.heap.size, 1, none⟩) hl_M).trans k_M_1
        replace k_M_2 : wy2.cell? ⟨w.heap.size, 2, none⟩ = some (.slice ca R cc) := (hb.cell (p := ⟨w.heap.size, 2, none⟩) hl_M).trans k_M_2
        replace f_M : ∀ o, wy2.frozen? ⟨w.heap.size, o, none⟩ = false := fun o => (hb.frozen (p := ⟨w.heap.size, o, none⟩) hl_M).trans (f_M o)
        replace HX_M := Lib.hid (HX_M.out.below hb)
        replace k_A_0 : wy2.cell? ⟨w.heap.size + 1, 0, none⟩ = some (.bool s2) := (hb.cell (p := ⟨w.heap.size + 1, 0, none⟩) hl_A).trans k_A_0
        replace k_A_1 : wy2.cell? ⟨w.heap.size + 1, 1, none⟩ = some (.slice a2 na2 ca2) := (hb.cell (p := ⟨w.heap.size + 1, 1, none⟩) hl_A).trans k_A_1
        replace k_A_2 : wy2.cell? ⟨w.heap.size + 1, 2, none⟩ = some (.slice d2 nd2 cd2) := (hb.cell (p := ⟨w.heap.size + 1, 2, none⟩) hl_A).trans k_A_2
        replace f_A : ∀ o, wy2.frozen? ⟨w.heap.size + 1, o, none⟩ = false := fun o => (hb.frozen (p := ⟨w.heap.size + 1, o, none⟩) hl_A).trans (f_A o)
        replace HX_A := Lib.hid (HX_A.out.below hb)
        replace HB := Lib.hid (HB.out.trans (hb.mono hs0))
        replace hN : N ≤ wy2.heap.size := Nat.le_trans hN hb.size
        replace hs0 : w.heap.size ≤ wy2.heap.size := Nat.le_trans hs0 hb.size
        replace hl_M : w.heap.size < wy2.heap.size := Nat.lt_of_lt_of_le hl_M hb.size
        replace hl_A : w.heap.size + 1 < wy2.heap.size := Nat.lt_of_lt_of_le hl_A hb.size
        replace HT := Lib.hid (HT.out.below hb)
        replace HAL := Lib.hid (HAL.out.below hb)
        replace HP := Lib.hid (HP.out.below hb)
        replace HI := Lib.hid (HI.out.below hb)
        replace HC := Lib.hid (HC.out.below hb)
        replace HF := Lib.hid (HF.out.below hb)
        clear hb
        rcases hres with ⟨c, hc0, rfl, _⟩ | ⟨bf, r, g, rfl, hr1, hr20, hone, _, hbs⟩
        · have cb : (c == 0) = false := by simpa using hc0
          have cc' : (c != 0) = true := by simpa using hc0
          go_wp2_with fail
          refine calls_name fun WA3 hW => ?_
          have HL_WA3 := Lib.hid (show Below wy2.heap.size wy2 WA3 by rw [← hW]; exact BlA)
          have hs_WA3 : wy2.heap.size ≤ WA3.heap.size := by rw [← hW]; (first | omega | (simp; done) | (simp; omega))
          replace k_M_0 : WA3.cell? ⟨w.heap.size, 0, none⟩ = some (.slice pa P pc) := (HL_WA3.out.cell (p := ⟨w.heap.size, 0, none⟩) hl_M).trans k_M_0
          replace k_M_1 : WA3.cell? ⟨w.heap.size, 1, none⟩ = some (.slice ia I ic) := (HL_WA3.out.cell (p := ⟨w.heap.size, 1, none⟩) hl_M).trans k_M_1
          replace k_M_2 : WA3.cell? ⟨w.heap.size, 2, none⟩ = some (.slice ca R cc) := (HL_WA3.out.cell (p := ⟨w.heap.size, 2, none⟩) hl_M).trans k_M_2
          replace f_M : ∀ o, WA3.frozen? ⟨w.heap.size, o, none⟩ = false := fun o => (HL_WA3.out.frozen (p := ⟨w.heap.size, o, none⟩) hl_M).trans (f_M o)
          replace HX_M := Lib.hid (show Bn WA3 (w.heap.size) by rw [← hW]; exact KpA)
          replace k_A_0 : WA3.cell? ⟨w.heap.size + 1, 0, none⟩ = some (.bool s2) := (HL_WA3.out.cell (p := ⟨w.heap.size + 1, 0, none⟩) hl_A).trans k_A_0
          replace k_A_1 : WA3.cell? ⟨w.heap.size + 1, 1, none⟩ = some (.slice a2 na2 ca2) := (HL_WA3.out.cell (p := ⟨w.heap.size + 1, 1, none⟩) hl_A).trans k_A_1
          replace k_A_2 : WA3.cell? ⟨w.heap.size + 1, 2, none⟩ = some (.slice d2 nd2 cd2) := (HL_WA3.out.cell (p := ⟨w.heap.size + 1, 2, none⟩) hl_A).trans k_A_2
          replace f_A : ∀ o, WA3.frozen? ⟨w.heap.size + 1, o, none⟩ = false := fun o => (HL_WA3.out.frozen (p := ⟨w.heap.size + 1, o, none⟩) hl_A).trans (f_A o)
          replace HX_A := Lib.hid (show Bn WA3 (w.heap.size + 1) by rw [← hW]; exact KpA)
          replace HB := Lib.hid (show Below w.heap.size w WA3 by rw [← hW]; exact BlA)
          replace hN : N ≤ WA3.heap.size := by rw [← hW]; (first | omega | (simp; done) | (simp; omega))
          replace hs0 : w.heap.size ≤ WA3.heap.size := by rw [← hW]; (first | omega | (simp; done) | (simp; omega))
          replace hl_M : w.heap.size < WA3.heap.size := by rw [← hW]; (first | omega | (simp; done) | (simp; omega))
          replace hl_A : w.heap.size + 1 < WA3.heap.size := by rw [← hW]; (first | omega | (simp; done) | (simp; omega))
          replace HT := Lib.hid (HT.out.below HL_WA3.out)
          replace HAL := Lib.hid (HAL.out.below HL_WA3.out)
          replace HP := Lib.hid (HP.out.below HL_WA3.out)
          replace HI := Lib.hid (HI.out.below HL_WA3.out)
          replace HC := Lib.hid (HC.out.below HL_WA3.out)
          replace HF := Lib.hid (HF.out.below HL_WA3.out)
          clear HL_WA3
          clear hW
          refine (fawake_any (N := N) _ hN HT.out).mono ?_
          rintro e wz4 ⟨rfl, hb⟩
          have hs_wz4 : WA3.heap.size ≤ wz4.heap.size := hb.size
          replace k_M_0 : wz4.cell? ⟨w.heap.size, 0, none⟩ = some (.slice pa P pc) := (hb.cell (p := ⟨w.heap.size, 0, none⟩) hl_M).trans k_M_0
          replace k_M_1 : wz4.cell? ⟨w.heap.size, 1, none⟩ = some (.slice ia I ic) := (hb.cell (p := ⟨w.heap.size, 1, none⟩) hl_M).trans k_M_1
          replace k_M_2 : wz4.cell? ⟨w.heap.size, 2, none⟩ = some (.slice ca R cc) := (hb.cell (p := ⟨w.heap.size, 2, none⟩) hl_M).trans k_M_2
          replace f_M : ∀ o, wz4.frozen? ⟨w.heap.size, o, none⟩ = false := fun o => (hb.frozen (p := ⟨w.heap.size, o, none⟩) hl_M).trans (f_M o)
          replace HX_M := Lib.hid (HX_M.out.below hb)
          replace k_A_0 : wz4.cell? ⟨w.heap.size + 1, 0, none⟩ = some (.bool s2) := (hb.cell (p := ⟨w.heap.size + 1, 0, none⟩) hl_A).trans k_A_0
          replace k_A_1 : wz4.cell? ⟨w.heap.size + 1, 1, none⟩ = some (.slice a2 na2 ca2) := (hb.cell (p := ⟨w.heap.size + 1, 1, none⟩) hl_A).trans k_A_1
          replace k_A_2 : wz4.cell? ⟨w.heap.size + 1, 2, none⟩ = some (.slice d2 nd2 cd2) := (hb.cell (p := ⟨w.heap.size + 1, 2, none⟩) hl_A).trans k_A_2
          replace f_A : ∀ o, wz4.frozen? ⟨w.heap.size + 1, o, none⟩ = false := fun o => (hb.frozen (p := ⟨w.heap.size + 1, o, none⟩) hl_A).trans (f_A o)
          replace HX_A := Lib.hid (HX_A.out.below hb)
          replace HB := Lib.hid (HB.out.trans (hb.mono hs0))
          replace hN : N ≤ wz4.heap.size := Nat.le_trans hN hb.size
          replace hs0 : w.heap.size ≤ wz4.heap.size := Nat.le_trans hs0 hb.size
          replace hl_M : w.heap.size < wz4.heap.size := Nat.lt_of_lt_of_le hl_M hb.size
          replace hl_A : w.heap.size + 1 < wz4.heap.size := Nat.lt_of_lt_of_le hl_A hb.size
          replace HT := Lib.hid (HT.out.below hb)
          replace HAL := Lib.hid (HAL.out.below hb)
          replace HP := Lib.hid (HP.out.below hb)
          replace HI := Lib.hid (HI.out.below hb)
          replace HC := Lib.hid (HC.out.below hb)
          replace HF := Lib.hid (HF.out.below hb)
          clear hb
          go_wp2_with fail
          go_ret
          exact ⟨rfl, HB.out⟩
        · have HBS := Lib.hid hbs
          have HON := Lib.hid hone
          clear hbs hone
          go_wp2_with fail
          go_loopw [19, 104] (fun sv ix wr => ∃ (k : Nat) (sb : Bool), k ≤ I ∧ ix = .int .i64 k ∧ sv = .bool sb ∧ Hid (r = 1 → sb = false) ∧ wy2 = wr) (fun _ ix _ => I - (intOf ix).toNat)
          case atStart => exact ⟨0, false, Nat.zero_le _, rfl, rfl, Lib.hid (fun _ => rfl), rfl⟩
          case round =>
            obtain ⟨k, sb, hk, rfl, rfl, hsb, rfl⟩ := hrel
            by_cases hkn : k < I
            · obtain ⟨b9, o9, hb9, hc9⟩ := HBS.out.2.2 (by omega)
              obtain ⟨rfl, rfl⟩ : bf = b9 ∧ 0 = o9 := by simpa using hb9
              have hck := hc9 k hkn
              obtain ⟨gk, hgk⟩ : ∃ x, g k = x := ⟨_, rfl⟩
              rw [hgk, Nat.zero_add] at hck
              have HGK := Lib.hid (show r = 1 → gk = false from fun h => by rw [← hgk]; exact HON.out h k hkn)
              clear hb9 hc9 hgk
              have hix0 : (0 : Int) ≤ (k : Int) := by omega
              have hix1 : (k : Int) < (I : Int) := by omega
              cases sb
              · cases gk
                · go_wp2_with fail
                  go_roundw
                  case rel =>
                    exact ⟨k + 1, false, by omega, by go_num, rfl, Lib.hid (fun _ => rfl), by first | rfl | trivial⟩
                  case measure => simp [intOf]; omega
                · go_wp2_with fail
                  go_roundw
                  case rel =>
                    exact ⟨k + 1, true, by omega, by go_num, rfl, Lib.hid (fun h => absurd (HGK.out h) (by decide)), by first | rfl | trivial⟩
                  case measure => simp [intOf]; omega
              · cases gk
                · go_wp2_with fail
                  go_roundw
                  case rel =>
                    exact ⟨k + 1, true, by omega, by go_num, rfl, Lib.hid (fun h => absurd (hsb.out h) (by decide)), by first | rfl | trivial⟩
                  case measure => simp [intOf]; omega
                · go_wp2_with fail
                  go_roundw
                  case rel =>
                    exact ⟨k + 1, true, by omega, by go_num, rfl, Lib.hid (fun h => absurd (hsb.out h) (by decide)), by first | rfl | trivial⟩
                  case measure => simp [intOf]; omega
            · obtain rfl : k = I := by omega
              by_cases hr : 1 < r
              · have hrz : (1 : Int) < (r : Int) := by omega
                go_wp2_with fail
                refine calls_name fun WA5 hW => ?_
                have HL_WA5 := Lib.hid (show Below wy2.heap.size wy2 WA5 by rw [← hW]; exact BlA)
                have hs_WA5 : wy2.heap.size ≤ WA5.heap.size := by rw [← hW]; (first | omega | (simp; done) | (simp; omega))
                replace k_M_0 : WA5.cell? ⟨w.heap.size, 0, none⟩ = some (.slice pa P pc) := (HL_WA5.out.cell (p := ⟨w.heap.size, 0, none⟩) hl_M).trans k_M_0
                replace k_M_1 : WA5.cell? ⟨w.heap.size, 1, none⟩ = some (.slice ia k ic) := (HL_WA5.out.cell (p := ⟨w.heap.size, 1, none⟩) hl_M).trans k_M_1
                replace k_M_2 : WA5.cell? ⟨w.heap.size, 2, none⟩ = some (.slice ca R cc) := (HL_WA5.out.cell (p := ⟨w.heap.size, 2, none⟩) hl_M).trans k_M_2
                replace f_M : ∀ o, WA5.frozen? ⟨w.heap.size, o, none⟩ = false := fun o => (HL_WA5.out.frozen (p := ⟨w.heap.size, o, none⟩) hl_M).trans (f_M o)
                replace HX_M := Lib.hid (show Bn WA5 (w.heap.size) by rw [← hW]; exact KpA)
                replace k_A_0 : WA5.cell? ⟨w.heap.size + 1, 0, none⟩ = some (.bool s2) := (HL_WA5.out.cell (p := ⟨w.heap.size + 1, 0, none⟩) hl_A).trans k_A_0
                replace k_A_1 : WA5.cell? ⟨w.heap.size + 1, 1, none⟩ = some (.slice a2 na2 ca2) := (HL_WA5.out.cell (p := ⟨w.heap.size + 1, 1, none⟩) hl_A).trans k_A_1
                replace k_A_2 : WA5.cell? ⟨w.heap.size + 1, 2, none⟩ = some (.slice d2 nd2 cd2) := (HL_WA5.out.cell (p := ⟨w.heap.size + 1, 2, none⟩) hl_A).trans k_A_2
                replace f_A : ∀ o, WA5.frozen? ⟨w.heap.size + 1, o, none⟩ = false := fun o => (HL_WA5.out.frozen (p := ⟨w.heap.size + 1, o, none⟩) hl_A).trans (f_A o)
                replace HX_A := Lib.hid (show Bn WA5 (w.heap.size + 1) by rw [← hW]; exact KpA)
                replace HB := Lib.hid (show Below w.heap.size w WA5 by rw [← hW]; exact BlA)
                replace hN : N ≤ WA5.heap.size := by rw [← hW]; (first | omega | (simp; done) | (simp; omega))
                replace hs0 : w.heap.size ≤ WA5.heap.size := by rw [← hW]; (first | omega | (simp; done) | (simp; omega))
                replace hl_M : w.heap.size < WA5.heap.size := by rw [← hW]; (first | omega | (simp; done) | (simp; omega))
                replace hl_A : w.heap.size + 1 < WA5.heap.size := by rw [← hW]; (first | omega | (simp; done) | (simp; omega))
                replace HT := Lib.hid (HT.out.below HL_WA5.out)
                replace HAL := Lib.hid (HAL.out.below HL_WA5.out)
                replace HP := Lib.hid (HP.out.below HL_WA5.out)
                replace HI := Lib.hid (HI.out.below HL_WA5.out)
                replace HC := Lib.hid (HC.out.below HL_WA5.out)
                replace HF := Lib.hid (HF.out.below HL_WA5.out)
                replace HBS := Lib.hid (HBS.out.below HL_WA5.out)
                clear HL_WA5
                clear hW
                refine (fawake_any (N := N) _ hN HT.out).mono ?_
                rintro e wz6 ⟨rfl, hb⟩
                have hs_wz6 : WA5.heap.size ≤ wz6.heap.size := hb.size
                replace k_M_0 : wz6.cell? ⟨w.heap.size, 0, none⟩ = some (.slice pa P pc) := (hb.cell (p := ⟨w.heap.size, 0, none⟩) hl_M).trans k_M_0
                replace k_M_1 : wz6.cell? ⟨w.heap.size, 1, none⟩ = some (.slice ia k ic) := (hb.cell (p := ⟨w.heap.size, 1, none⟩) hl_M).trans k_M_1
                replace k_M_2 : wz6.cell? ⟨w.heap.size, 2, none⟩ = some (.slice ca R cc) := (hb.cell (p := ⟨w.heap.size, 2, none⟩) hl_M).trans k_M_2
                replace f_M : ∀ o, wz6.frozen? ⟨w.heap.size, o, none⟩ = false := fun o => (hb.frozen (p := ⟨w.heap.size, o, none⟩) hl_M).trans (f_M o)
                replace HX_M := Lib.hid (HX_M.out.below hb)
                replace k_A_0 : wz6.cell? ⟨w.heap.size + 1, 0, none⟩ = some (.bool s2) := (hb.cell (p := ⟨w.heap.size + 1, 0, none⟩) hl_A).trans k_A_0
                replace k_A_1 : wz6.cell? ⟨w.heap.size + 1, 1, none⟩ = some (.slice a2 na2 ca2) := (hb.cell (p := ⟨w.heap.size + 1, 1, none⟩) hl_A).trans k_A_1
                replace k_A_2 : wz6.cell? ⟨w.heap.size + 1, 2, none⟩ = some (.slice d2 nd2 cd2) := (hb.cell (p := ⟨w.heap.size + 1, 2, none⟩) hl_A).trans k_A_2
                replace f_A : ∀ o, wz6.frozen? ⟨w.heap.size + 1, o, none⟩ = false := fun o => (hb.frozen (p := ⟨w.heap.size + 1, o, none⟩) hl_A).trans (f_A o)
                replace HX_A := Lib.hid (HX_A.out.below hb)
                replace HB := Lib.hid (HB.out.trans (hb.mono hs0))
                replace hN : N ≤ wz6.heap.size := Nat.le_trans hN hb.size
                replace hs0 : w.heap.size ≤ wz6.heap.size := Nat.le_trans hs0 hb.size
                replace hl_M : w.heap.size < wz6.heap.size := Nat.lt_of_lt_of_le hl_M hb.size
                replace hl_A : w.heap.size + 1 < wz6.heap.size := Nat.lt_of_lt_of_le hl_A hb.size
                replace HT := Lib.hid (HT.out.below hb)
                replace HAL := Lib.hid (HAL.out.below hb)
                replace HP := Lib.hid (HP.out.below hb)
                replace HI := Lib.hid (HI.out.below hb)
                replace HC := Lib.hid (HC.out.below hb)
                replace HF := Lib.hid (HF.out.below hb)
                replace HBS := Lib.hid (HBS.out.below hb)
                clear hb
                go_wp2_with fail
                go_ret
                exact ⟨rfl, HB.out⟩
              · have hrz : ¬ (1 : Int) < (r : Int) := by omega
                obtain rfl : sb = false := hsb.out (by omega)
                go_wp2_with fail
                refine calls_name fun WA7 hW => ?_
                have HL_WA7 := Lib.hid (show Below wy2.heap.size wy2 WA7 by rw [← hW]; exact BlA)
                have hs_WA7 : wy2.heap.size ≤ WA7.heap.size := by rw [← hW]; (first | omega | (simp; done) | (simp; omega))
                replace k_M_0 : WA7.cell? ⟨w.heap.size, 0, none⟩ = some (.slice pa P pc) := (HL_WA7.out.cell (p := ⟨w.heap.size, 0, none⟩) hl_M).trans k_M_0
                replace k_M_1 : WA7.cell? ⟨w.heap.size, 1, none⟩ = some (.slice ia k ic) := (HL_WA7.out.cell (p := ⟨w.heap.size, 1, none⟩) hl_M).trans k_M_1
                replace k_M_2 : WA7.cell? ⟨w.heap.size, 2, none⟩ = some (.slice ca R cc) := (HL_WA7.out.cell (p := ⟨w.heap.size, 2, none⟩) hl_M).trans k_M_2
                replace f_M : ∀ o, WA7.frozen? ⟨w.heap.size, o, none⟩ = false := fun o => (HL_WA7.out.frozen (p := ⟨w.heap.size, o, none⟩) hl_M).trans (f_M o)
                replace HX_M := Lib.hid (show Bn WA7 (w.heap.size) by rw [← hW]; exact KpA)
                replace k_A_0 : WA7.cell? ⟨w.heap.size + 1, 0, none⟩ = some (.bool s2) := (HL_WA7.out.cell (p := ⟨w.heap.size + 1, 0, none⟩) hl_A).trans k_A_0
                replace k_A_1 : WA7.cell? ⟨w.heap.size + 1, 1, none⟩ = some (.slice a2 na2 ca2) := (HL_WA7.out.cell (p := ⟨w.heap.size + 1, 1, none⟩) hl_A).trans k_A_1
                replace k_A_2 : WA7.cell? ⟨w.heap.size + 1, 2, none⟩ = some (.slice d2 nd2 cd2) := (HL_WA7.out.cell (p := ⟨w.heap.size + 1, 2, none⟩) hl_A).trans k_A_2
                replace f_A : ∀ o, WA7.frozen? ⟨w.heap.size + 1, o, none⟩ = false := fun o => (HL_WA7.out.frozen (p := ⟨w.heap.size + 1, o, none⟩) hl_A).trans (f_A o)
                replace HX_A := Lib.hid (show Bn WA7 (w.heap.size + 1) by rw [← hW]; exact KpA)
                replace HB := Lib.hid (show Below w.heap.size w WA7 by rw [← hW]; exact BlA)
                replace hN : N ≤ WA7.heap.size := by rw [← hW]; (first | omega | (simp; done) | (simp; omega))
                replace hs0 : w.heap.size ≤ WA7.heap.size := by rw [← hW]; (first | omega | (simp; done) | (simp; omega))
                replace hl_M : w.heap.size < WA7.heap.size := by rw [← hW]; (first | omega | (simp; done) | (simp; omega))
                replace hl_A : w.heap.size + 1 < WA7.heap.size := by rw [← hW]; (first | omega | (simp; done) | (simp; omega))
                replace HT := Lib.hid (HT.out.below HL_WA7.out)
                replace HAL := Lib.hid (HAL.out.below HL_WA7.out)
                replace HP := Lib.hid (HP.out.below HL_WA7.out)
                replace HI := Lib.hid (HI.out.below HL_WA7.out)
                replace HC := Lib.hid (HC.out.below HL_WA7.out)
                replace HF := Lib.hid (HF.out.below HL_WA7.out)
                replace HBS := Lib.hid (HBS.out.below HL_WA7.out)
                clear HL_WA7
                clear hW
                refine (fawake_any (N := N) _ hN HT.out).mono ?_
                rintro e wz8 ⟨rfl, hb⟩
                have hs_wz8 : WA7.heap.size ≤ wz8.heap.size := hb.size
                replace k_M_0 : wz8.cell? ⟨w.heap.size, 0, none⟩ = some (.slice pa P pc) := (hb.cell (p := ⟨w.heap.size, 0, none⟩) hl_M).trans k_M_0
                replace k_M_1 : wz8.cell? ⟨w.heap.size, 1, none⟩ = some (.slice ia k ic) := (hb.cell (p := ⟨w.heap.size, 1, none⟩) hl_M).trans k_M_1
                replace k_M_2 : wz8.cell? ⟨w.heap.size, 2, none⟩ = some (.slice ca R cc) := (hb.cell (p := ⟨w.heap.size, 2, none⟩) hl_M).trans k_M_2
                replace f_M : ∀ o, wz8.frozen? ⟨w.heap.size, o, none⟩ = false := fun o => (hb.frozen (p := ⟨w.heap.size, o, none⟩) hl_M).trans (f_M o)
                replace HX_M := Lib.hid (HX_M.out.below hb)
                replace k_A_0 : wz8.cell? ⟨w.heap.size + 1, 0, none⟩ = some (.bool s2) := (hb.cell (p := ⟨w.heap.size + 1, 0, none⟩) hl_A).trans k_A_0
                replace k_A_1 : wz8.cell? ⟨w.heap.size + 1, 1, none⟩ = some (.slice a2 na2 ca2) := (hb.cell (p := ⟨w.heap.size + 1, 1, none⟩) hl_A).trans k_A_1
                replace k_A_2 : wz8.cell? ⟨w.heap.size + 1, 2, none⟩ = some (.slice d2 nd2 cd2) := (hb.cell (p := ⟨w.heap.size + 1, 2, none⟩) hl_A).trans k_A_2
                replace f_A : ∀ o, wz8.frozen? ⟨w.heap.size + 1, o, none⟩ = false := fun o => (hb.frozen (p := ⟨w.heap.size + 1, o, none⟩) hl_A).trans (f_A o)
                replace HX_A := Lib.hid (HX_A.out.below hb)
                replace HB := Lib.hid (HB.out.trans (hb.mono hs0))
                replace hN : N ≤ wz8.heap.size := Nat.le_trans hN hb.size
                replace hs0 : w.heap.size ≤ wz8.heap.size := Nat.le_trans hs0 hb.size
                replace hl_M : w.heap.size < wz8.heap.size := Nat.lt_of_lt_of_le hl_M hb.size
                replace hl_A : w.heap.size + 1 < wz8.heap.size := Nat.lt_of_lt_of_le hl_A hb.size
                replace HT := Lib.hid (HT.out.below hb)
                replace HAL := Lib.hid (HAL.out.below hb)
                replace HP := Lib.hid (HP.out.below hb)
                replace HI := Lib.hid (HI.out.below hb)
                replace HC := Lib.hid (HC.out.below hb)
                replace HF := Lib.hid (HF.out.below hb)
                replace HBS := Lib.hid (HBS.out.below hb)
                clear hb
                go_wp2_with fail
                go_ret
                exact ⟨rfl, HB.out⟩
      · have hIz : (5 : Int) < (I : Int) := by omega
        go_wp2_with fail
        refine calls_name fun WA9 hW => ?_
        have HL_WA9 := Lib.hid (show Below wx.heap.size wx WA9 by rw [← hW]; exact BlA)
        have hs_WA9 : wx.heap.size ≤ WA9.heap.size := by rw [← hW]; (first | omega | (simp; done) | (simp; omega))
        replace k_M_0 : WA9.cell? ⟨w.heap.size, 0, none⟩ = some (.slice pa P pc) := (HL_WA9.out.cell (p := ⟨w.heap.size, 0, none⟩) hl_M).trans k_M_0
        replace k_M_1 : WA9.cell? ⟨w.heap.size, 1, none⟩ = some (.slice ia I ic) := (HL_WA9.out.cell (p := ⟨w.heap.size, 1, none⟩) hl_M).trans k_M_1
        replace k_M_2 : WA9.cell? ⟨w.heap.size, 2, none⟩ = some (.slice ca R cc) := (HL_WA9.out.cell (p := ⟨w.heap.size, 2, none⟩) hl_M).trans k_M_2
        replace f_M : ∀ o, WA9.frozen? ⟨w.heap.size, o, none⟩ = false := fun o => (HL_WA9.out.frozen (p := ⟨w.heap.size, o, none⟩) hl_M).trans (f_M o)
        replace HX_M := Lib.hid (show Bn WA9 (w.heap.size) by rw [← hW]; exact KpA)
        replace k_A_0 : WA9.cell? ⟨w.heap.size + 1, 0, none⟩ = some (.bool s2) := (HL_WA9.out.cell (p := ⟨w.heap.size + 1, 0, none⟩) hl_A).trans k_A_0
        replace k_A_1 : WA9.cell? ⟨w.heap.size + 1, 1, none⟩ = some (.slice a2 na2 ca2) := (HL_WA9.out.cell (p := ⟨w.heap.size + 1, 1, none⟩) hl_A).trans k_A_1
        replace k_A_2 : WA9.cell? ⟨w.heap.size + 1, 2, none⟩ = some (.slice d2 nd2 cd2) := (HL_WA9.out.cell (p := ⟨w.heap.size + 1, 2, none⟩) hl_A).trans k_A_2
        replace f_A : ∀ o, WA9.frozen? ⟨w.heap.size + 1, o, none⟩ = false := fun o => (HL_WA9.out.frozen (p := ⟨w.heap.size + 1, o, none⟩) hl_A).trans (f_A o)
        replace HX_A := Lib.hid (show Bn WA9 (w.heap.size + 1) by rw [← hW]; exact KpA)
        replace HB := Lib.hid (show Below w.heap.size w WA9 by rw [← hW]; exact BlA)
        replace hN : N ≤ WA9.heap.size := by rw [← hW]; (first | omega | (simp; done) | (simp; omega))
        replace hs0 : w.heap.size ≤ WA9.heap.size := by rw [← hW]; (first | omega | (simp; done) | (simp; omega))
        replace hl_M : w.heap.size < WA9.heap.size := by rw [← hW]; (first | omega | (simp; done) | (simp; omega))
        replace hl_A : w.heap.size + 1 < WA9.heap.size := by rw [← hW]; (first | omega | (simp; done) | (simp; omega))
        replace HT := Lib.hid (HT.out.below HL_WA9.out)
        replace HAL := Lib.hid (HAL.out.below HL_WA9.out)
        replace HP := Lib.hid (HP.out.below HL_WA9.out)
        replace HI := Lib.hid (HI.out.below HL_WA9.out)
        replace HC := Lib.hid (HC.out.below HL_WA9.out)
        replace HF := Lib.hid (HF.out.below HL_WA9.out)
        clear HL_WA9
        clear hW
        refine (fawake_any (N := N) _ hN HT.out).mono ?_
        rintro e wz10 ⟨rfl, hb⟩
        have hs_wz10 : WA9.heap.size ≤ wz10.heap.size := hb.size
        replace k_M_0 : wz10.cell? ⟨w.heap.size, 0, none⟩ = some (.slice pa P pc) := (hb.cell (p := ⟨w.heap.size, 0, none⟩) hl_M).trans k_M_0
        replace k_M_1 : wz10.cell? ⟨w.heap.size, 1, none⟩ = some (.slice ia I ic) := (hb.cell (p := ⟨w.heap.size, 1, none⟩) hl_M).trans k_M_1
        replace k_M_2 : wz10.cell? ⟨w.heap.size, 2, none⟩ = some (.slice ca R cc) := (hb.cell (p := ⟨w.heap.size, 2, none⟩) hl_M).trans k_M_2
        replace f_M : ∀ o, wz10.frozen? ⟨w.heap.size, o, none⟩ = false := fun o => (hb.frozen (p := ⟨w.heap.size, o, none⟩) hl_M).trans (f_M o)
        replace HX_M := Lib.hid (HX_M.out.below hb)
        replace k_A_0 : wz10.cell? ⟨w.heap.size + 1, 0, none⟩ = some (.bool s2) := (hb.cell (p := ⟨w.heap.size + 1, 0, none⟩) hl_A).trans k_A_0
        replace k_A_1 : wz10.cell? ⟨w.heap.size + 1, 1, none⟩ = some (.slice a2 na2 ca2) := (hb.cell (p := ⟨w.heap.size + 1, 1, none⟩) hl_A).trans k_A_1
        replace k_A_2 : wz10.cell? ⟨w.heap.size + 1, 2, none⟩ = some (.slice d2 nd2 cd2) := (hb.cell (p := ⟨w.heap.size + 1, 2, none⟩) hl_A).trans k_A_2
        replace f_A : ∀ o, wz10.frozen? ⟨w.heap.size + 1, o, none⟩ = false := fun o => (hb.frozen (p := ⟨w.heap.size + 1, o, none⟩) hl_A).trans (f_A o)
        replace HX_A := Lib.hid (HX_A.out.below hb)
        replace HB := Lib.hid (HB.out.trans (hb.mono hs0))
        replace hN : N ≤ wz10.heap.size := Nat.le_trans hN hb.size
        replace hs0 : w.heap.size ≤ wz10.heap.size := Nat.le_trans hs0 hb.size
        replace hl_M : w.heap.size < wz10.heap.size := Nat.lt_of_lt_of_le hl_M hb.size
        replace hl_A : w.heap.size + 1 < wz10.heap.size := Nat.lt_of_lt_of_le hl_A hb.size
        replace HT := Lib.hid (HT.out.below hb)
        replace HAL := Lib.hid (HAL.out.below hb)
        replace HP := Lib.hid (HP.out.below hb)
        replace HI := Lib.hid (HI.out.below hb)
        replace HC := Lib.hid (HC.out.below hb)
        replace HF := Lib.hid (HF.out.below hb)
        clear hb
        go_wp2_with fail
        go_ret
        exact ⟨rfl, HB.out⟩
    · have hPz : (12 : Int) < (P : Int) := by omega
      go_wp2_with fail
      refine calls_name fun WA11 hW => ?_
      have HL_WA11 := Lib.hid (show Below wx.heap.size wx WA11 by rw [← hW]; exact BlA)
      have hs_WA11 : wx.heap.size ≤ WA11.heap.size := by rw [← hW]; (first | omega | (simp; done) | (simp; omega))
      replace k_M_0 : WA11.cell? ⟨w.heap.size, 0, none⟩ = some (.slice pa P pc) := (HL_WA11.out.cell (p := ⟨w.heap.size, 0, none⟩) hl_M).trans k_M_0
      replace k_M_1 : WA11.cell? ⟨w.heap.size, 1, none⟩ = some (.slice ia I ic) := (HL_WA11.out.cell (p := ⟨w.heap.size, 1, none⟩) hl_M).trans k_M_1
      replace k_M_2 : WA11.cell? ⟨w.heap.size, 2, none⟩ = some (.slice ca R cc) := (HL_WA11.out.cell (p := ⟨w.heap.size, 2, none⟩) hl_M).trans k_M_2
      replace f_M : ∀ o, WA11.frozen? ⟨w.heap.size, o, none⟩ = false := fun o => (HL_WA11.out.frozen (p := ⟨w.heap.size, o, none⟩) hl_M).trans (f_M o)
      replace HX_M := Lib.hid (show Bn WA11 (w.heap.size) by rw [← hW]; exact KpA)
      replace k_A_0 : WA11.cell? ⟨w.heap.size + 1, 0, none⟩ = some (.bool s2) := (HL_WA11.out.cell (p := ⟨w.heap.size + 1, 0, none⟩) hl_A).trans k_A_0
      replace k_A_1 : WA11.cell? ⟨w.heap.size + 1, 1, none⟩ = some (.slice a2 na2 ca2) := (HL_WA11.out.cell (p := ⟨w.heap.size + 1, 1, none⟩) hl_A).trans k_A_1
      replace k_A_2 : WA11.cell? ⟨w.heap.size + 1, 2, none⟩ = some (.slice d2 nd2 cd2) := (HL_WA11.out.cell (p := ⟨w.heap.size + 1, 2, none⟩) hl_A).trans k_A_2
      replace f_A : ∀ o, WA11.frozen? ⟨w.heap.size + 1, o, none⟩ = false := fun o => (HL_WA11.out.frozen (p := ⟨w.heap.size + 1, o, none⟩) hl_A).trans (f_A o)
      replace HX_A := Lib.hid (show Bn WA11 (w.heap.size + 1) by rw [← hW]; exact KpA)
      replace HB := Lib.hid (show Below w.heap.size w WA11 by rw [← hW]; exact BlA)
      replace hN : N ≤ WA11.heap.size := by rw [← hW]; (first | omega | (simp; done) | (simp; omega))
      replace hs0 : w.heap.size ≤ WA11.heap.size := by rw [← hW]; (first | omega | (simp; done) | (simp; omega))
      replace hl_M : w.heap.size < WA11.heap.size := by rw [← hW]; (first | omega | (simp; done) | (simp; omega))
      replace hl_A : w.heap.size + 1 < WA11.heap.size := by rw [← hW]; (first | omega | (simp; done) | (simp; omega))
      replace HT := Lib.hid (HT.out.below HL_WA11.out)
      replace HAL := Lib.hid (HAL.out.below HL_WA11.out)
      replace HP := Lib.hid (HP.out.below HL_WA11.out)
      replace HI := Lib.hid (HI.out.below HL_WA11.out)
      replace HC := Lib.hid (HC.out.below HL_WA11.out)
      replace HF := Lib.hid (HF.out.below HL_WA11.out)
      clear HL_WA11
      clear hW
      refine (fawake_any (N := N) _ hN HT.out).mono ?_
      rintro e wz12 ⟨rfl, hb⟩
      have hs_wz12 : WA11.heap.size ≤ wz12.heap.size := hb.size
      replace k_M_0 : wz12.cell? ⟨w.heap.size, 0, none⟩ = some (.slice pa P pc) := (hb.cell (p := ⟨w.heap.size, 0, none⟩) hl_M).trans k_M_0
      replace k_M_1 : wz12.cell? ⟨w.heap.size, 1, none⟩ = some (.slice ia I ic) := (hb.cell (p := ⟨w.heap.size, 1, none⟩) hl_M).trans k_M_1
      replace k_M_2 : wz12.cell? ⟨w.heap.size, 2, none⟩ = some (.slice ca R cc) := (hb.cell (p := ⟨w.heap.size, 2, none⟩) hl_M).trans k_M_2
      replace f_M : ∀ o, wz12.frozen? ⟨w.heap.size, o, none⟩ = false := fun o => (hb.frozen (p := ⟨w.heap.size, o, none⟩) hl_M).trans (f_M o)
      replace HX_M := Lib.hid (HX_M.out.below hb)
      replace k_A_0 : wz12.cell? ⟨w.heap.size + 1, 0, none⟩ = some (.bool s2) := (hb.cell (p := ⟨w.heap.size + 1, 0, none⟩) hl_A).trans k_A_0
      replace k_A_1 : wz12.cell? ⟨w.heap.size + 1, 1, none⟩ = some (.slice a2 na2 ca2) := (hb.cell (p := ⟨w.heap.size + 1, 1, none⟩) hl_A).trans k_A_1
      replace k_A_2 : wz12.cell? ⟨w.heap.size + 1, 2, none⟩ = some (.slice d2 nd2 cd2) := (hb.cell (p := ⟨w.heap.size + 1, 2, none⟩) hl_A).trans k_A_2
      replace f_A : ∀ o, wz12.frozen? ⟨w.heap.size + 1, o, none⟩ = false := fun o => (hb.frozen (p := ⟨w.heap.size + 1, o, none⟩) hl_A).trans (f_A o)
      replace HX_A := Lib.hid (HX_A.out.below hb)
      replace HB := Lib.hid (HB.out.trans (hb.mono hs0))
      replace hN : N ≤ wz12.heap.size := Nat.le_trans hN hb.size
      replace hs0 : w.heap.size ≤ wz12.heap.size := Nat.le_trans hs0 hb.size
      replace hl_M : w.heap.size < wz12.heap.size := Nat.lt_of_lt_of_le hl_M hb.size
      replace hl_A : w.heap.size + 1 < wz12.heap.size := Nat.lt_of_lt_of_le hl_A hb.size
      replace HT := Lib.hid (HT.out.below hb)
      replace HAL := Lib.hid (HAL.out.below hb)
      replace HP := Lib.hid (HP.out.below hb)
      replace HI := Lib.hid (HI.out.below hb)
      replace HC := Lib.hid (HC.out.below hb)
      replace HF := Lib.hid (HF.out.below hb)
      clear hb
      go_wp2_with fail
      go_ret
      exact ⟨rfl, HB.out⟩

end Go.Proofs.YtmecipfdelgfbaaDoor
