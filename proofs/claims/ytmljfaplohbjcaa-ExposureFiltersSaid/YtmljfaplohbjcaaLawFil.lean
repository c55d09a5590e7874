/- ExposureFilters returns true for every input; no condition. -/
import Derived.Test.YtmljfaplohbjcaaMpF
import Derived.Test.YtmljfaplohbjcaaExpB
import Derived.Test.YtmljfaplohbjcaaFrP
namespace Go.Proofs.Ytmljfaplohbjcaa
open Go.RowKit Go.ChangeShapes Go.WideShapes Go.ChangeAt Go.Deep


set_option maxRecDepth 20000 in
set_option maxHeartbeats 4000000 in
theorem filters_walk {N : Nat} (pa : Option Addr) (n pc : Nat) (id : Nat → Int) (ua : Option Addr) (m uc : Nat) (it ct : Nat → Int) (served : Int) (s : Bool) (a d : Option Addr) (na ca nd cd : Nat) (slack : Int) (w : World) (mn md : Nat) (hN : N ≤ w.heap.size) (hp : Pl w pa n pc id) (hu : Us w ua m uc it ct) (h64 : ∀ i, i < m → W64 (it i)) (ha : Nt N w a na ca mn) (hd : Nt N w d nd cd md) :
    Calls Try.prog 4 #[.slice pa n pc, .slice ua m uc, .int .i64 served, .agg #[.bool s, .slice a na ca, .slice d nd cd], .int .i64 slack] w fun e w' => e = .returned (.bool true) ∧ Below w.heap.size w w' := by
  have b1 := hp.1
  have b2 := hp.2.1
  have b3 := hu.1
  have b4 := hu.2.1
  unfold maxLen at b2 b4
  have HP := Lib.hid hp
  have HU := Lib.hid hu
  clear hp hu
  by_cases h40 : 40 < n
  · go_enter Try.func4, Try.ntmps4
    go_wp2_with fail
    go_ret
    exact ⟨rfl, bel1 _ _⟩
  · have d1 : ¬ ((40 : Int) < (n : Int)) := by omega
    by_cases h200 : 200 < m
    · have d2 : ((200 : Int) < (m : Int)) := by omega
      go_enter Try.func4, Try.ntmps4
      go_wp2_with fail
      go_ret
      exact ⟨rfl, bel1 _ _⟩
    · have d2 : ¬ ((200 : Int) < (m : Int)) := by omega
      by_cases hl : 20 < na ∨ 20 < nd
      · have HLG := Lib.hid (show (decide (20 < na) || decide (20 < nd)) = true by simpa using hl)
        clear ha hd hl
        have HB := Lib.hid (Below.refl w.heap.size w)
        go_enter Try.func4, Try.ntmps4
        go_wp2_with fail
        refine calls_name fun W0 hW => ?_
        have hN_W0 : N ≤ W0.heap.size := by rw [← hW]; (first | omega | (simp; done) | (simp; omega))
        have hs_W0 : w.heap.size ≤ W0.heap.size := by rw [← hW]; (first | omega | (simp; done) | (simp; omega))
        have hs0_W0 : w.heap.size ≤ W0.heap.size := by rw [← hW]; (first | omega | (simp; done) | (simp; omega))
        have hl_R_W0 : w.heap.size < W0.heap.size := by rw [← hW]; (first | omega | (simp; done) | (simp; omega))
        have k_R_0_W0 : W0.cell? ⟨w.heap.size, 0, none⟩ = some (.bool s) := by rw [← hW]; (first | (go_simp; done) | (simp; done) | (simp [go_sem]; done) | (simp [go_sem]; done))
        have k_R_1_W0 : W0.cell? ⟨w.heap.size, 1, none⟩ = some (.slice a na ca) := by rw [← hW]; (first | (go_simp; done) | (simp; done) | (simp [go_sem]; done) | (simp [go_sem]; done))
        have k_R_2_W0 : W0.cell? ⟨w.heap.size, 2, none⟩ = some (.slice d nd cd) := by rw [← hW]; (first | (go_simp; done) | (simp; done) | (simp [go_sem]; done) | (simp [go_sem]; done))
        have f_R_W0 : ∀ o, W0.frozen? ⟨w.heap.size, o, none⟩ = false := by intro o; rw [← hW]; (first | (go_simp; done) | (simp; done) | (simp [go_sem]; done) | (simp [go_sem]; done))
        have HX_R_W0 := Lib.hid (show Bn W0 (w.heap.size) by rw [← hW]; (repeat' (first | with_reducible exact Kp.refl _ _ | with_reducible apply Kp.alloc | with_reducible apply Kp.drew | (with_reducible refine Kp.put ?_ ?_ ?_ _; rotate_left; (focus (first | omega | (simp; done) | (simp; omega))); rotate_left) | (with_reducible refine Bn.new _ _ _ _ ?_ ?_; (focus (first | omega | (simp; done) | (simp; omega))); decide) | with_reducible apply Bn.alloc | with_reducible apply Bn.drew | with_reducible apply Bn.set)))
        have HB_W0 := Lib.hid (show Below w.heap.size w W0 by rw [← hW]; (repeat' (first | with_reducible exact Below.refl _ _ | with_reducible exact HB.out | (with_reducible refine Below.alloc ?_ ?_ _; rotate_left; (focus (first | omega | (simp; done) | (simp; omega)))) | with_reducible apply Below.drew | (with_reducible refine Below.setCell ?_ ?_ _; rotate_left; (focus (first | omega | (simp; done) | (simp; omega)))))))
        clear hW
        clear HB hN
        have hN := hN_W0
        have HB := HB_W0
        have hs0 := hs0_W0
        have hl_R := hl_R_W0
        have f_R := f_R_W0
        have HX_R := HX_R_W0
        have k_R_0 := k_R_0_W0
        have k_R_1 := k_R_1_W0
        have k_R_2 := k_R_2_W0
        clear hN_W0 HB_W0 hs0_W0 hl_R_W0 f_R_W0 HX_R_W0 k_R_0_W0 k_R_1_W0 k_R_2_W0
        refine (large_any _ _ _ _ _ _ _ _).mono ?_
        rw [HLG.out]
        rintro e wa ⟨rfl, hb⟩
        have hN_wa : N ≤ wa.heap.size := Nat.le_trans hN hb.size
        have hs_wa : W0.heap.size ≤ wa.heap.size := hb.size
        have hs0_wa : w.heap.size ≤ wa.heap.size := Nat.le_trans hs0 hb.size
        have hl_R_wa : w.heap.size < wa.heap.size := Nat.lt_of_lt_of_le hl_R hb.size
        have k_R_0_wa : wa.cell? ⟨w.heap.size, 0, none⟩ = some (.bool s) := (hb.cell (p := ⟨w.heap.size, 0, none⟩) hl_R).trans k_R_0
        have k_R_1_wa : wa.cell? ⟨w.heap.size, 1, none⟩ = some (.slice a na ca) := (hb.cell (p := ⟨w.heap.size, 1, none⟩) hl_R).trans k_R_1
        have k_R_2_wa : wa.cell? ⟨w.heap.size, 2, none⟩ = some (.slice d nd cd) := (hb.cell (p := ⟨w.heap.size, 2, none⟩) hl_R).trans k_R_2
        have f_R_wa : ∀ o, wa.frozen? ⟨w.heap.size, o, none⟩ = false := fun o => (hb.frozen (p := ⟨w.heap.size, o, none⟩) hl_R).trans (f_R o)
        have HX_R_wa := Lib.hid (HX_R.out.below hb)
        have HB_wa := Lib.hid (HB.out.trans (hb.mono hs0))
        clear hb
        clear hl_R f_R HX_R k_R_0 k_R_1 k_R_2 HB hN hs0
        have hN := hN_wa
        have HB := HB_wa
        have hs0 := hs0_wa
        have hl_R := hl_R_wa
        have f_R := f_R_wa
        have HX_R := HX_R_wa
        have k_R_0 := k_R_0_wa
        have k_R_1 := k_R_1_wa
        have k_R_2 := k_R_2_wa
        clear hN_wa HB_wa hs0_wa hl_R_wa f_R_wa HX_R_wa k_R_0_wa k_R_1_wa k_R_2_wa
        go_wp2_with fail
        go_ret
        exact ⟨rfl, HB.out⟩
      · have HLG := Lib.hid (show (decide (20 < na) || decide (20 < nd)) = false by simpa using hl)
        have HR := Lib.hid (show Rt N w s a na ca d nd cd (mkRat (zI s mn) md) 20 from ⟨by decide, by omega, by omega, mn, md, ha, hd, rfl⟩)
        clear ha hd hl
        obtain ⟨q, hq⟩ : ∃ q, mkRat (zI s mn) md = q := ⟨_, rfl⟩
        rw [hq] at HR
        clear hq
        obtain ⟨E, hE⟩ : ∃ E : Int → Bool, ∀ x, elig (cntN it ct x m) served q slack = E x := ⟨fun x => _, fun x => rfl⟩
        have HE := Lib.hid hE
        clear hE
        have HB := Lib.hid (Below.refl w.heap.size w)
        go_enter Try.func4, Try.ntmps4
        go_wp2_with fail
        refine calls_name fun W0 hW => ?_
        have hN_W0 : N ≤ W0.heap.size := by rw [← hW]; (first | omega | (simp; done) | (simp; omega))
        have hs_W0 : w.heap.size ≤ W0.heap.size := by rw [← hW]; (first | omega | (simp; done) | (simp; omega))
        have hs0_W0 : w.heap.size ≤ W0.heap.size := by rw [← hW]; (first | omega | (simp; done) | (simp; omega))
        have hl_R_W0 : w.heap.size < W0.heap.size := by rw [← hW]; (first | omega | (simp; done) | (simp; omega))
        have k_R_0_W0 : W0.cell? ⟨w.heap.size, 0, none⟩ = some (.bool s) := by rw [← hW]; (first | (go_simp; done) | (simp; done) | (simp [go_sem]; done) | (simp [go_sem]; done))
        have k_R_1_W0 : W0.cell? ⟨w.heap.size, 1, none⟩ = some (.slice a na ca) := by rw [← hW]; (first | (go_simp; done) | (simp; done) | (simp [go_sem]; done) | (simp [go_sem]; done))
        have k_R_2_W0 : W0.cell? ⟨w.heap.size, 2, none⟩ = some (.slice d nd cd) := by rw [← hW]; (first | (go_simp; done) | (simp; done) | (simp [go_sem]; done) | (simp [go_sem]; done))
        have f_R_W0 : ∀ o, W0.frozen? ⟨w.heap.size, o, none⟩ = false := by intro o; rw [← hW]; (first | (go_simp; done) | (simp; done) | (simp [go_sem]; done) | (simp [go_sem]; done))
        have HX_R_W0 := Lib.hid (show Bn W0 (w.heap.size) by rw [← hW]; (repeat' (first | with_reducible exact Kp.refl _ _ | with_reducible apply Kp.alloc | with_reducible apply Kp.drew | (with_reducible refine Kp.put ?_ ?_ ?_ _; rotate_left; (focus (first | omega | (simp; done) | (simp; omega))); rotate_left) | (with_reducible refine Bn.new _ _ _ _ ?_ ?_; (focus (first | omega | (simp; done) | (simp; omega))); decide) | with_reducible apply Bn.alloc | with_reducible apply Bn.drew | with_reducible apply Bn.set)))
        have HK_W0 := Lib.hid (show Kp N w W0 by rw [← hW]; (repeat' (first | with_reducible exact Kp.refl _ _ | with_reducible apply Kp.alloc | with_reducible apply Kp.drew | (with_reducible refine Kp.put ?_ ?_ ?_ _; rotate_left; (focus (first | omega | (simp; done) | (simp; omega))); rotate_left) | (with_reducible refine Bn.new _ _ _ _ ?_ ?_; (focus (first | omega | (simp; done) | (simp; omega))); decide) | with_reducible apply Bn.alloc | with_reducible apply Bn.drew | with_reducible apply Bn.set)))
        have HR_W0 := Lib.hid (HR.out.keep HK_W0.out)
        have HB_W0 := Lib.hid (show Below w.heap.size w W0 by rw [← hW]; (repeat' (first | with_reducible exact Below.refl _ _ | with_reducible exact HB.out | (with_reducible refine Below.alloc ?_ ?_ _; rotate_left; (focus (first | omega | (simp; done) | (simp; omega)))) | with_reducible apply Below.drew | (with_reducible refine Below.setCell ?_ ?_ _; rotate_left; (focus (first | omega | (simp; done) | (simp; omega)))))))
        have HL_W0 := Lib.hid (show Below w.heap.size w W0 by rw [← hW]; (repeat' (first | with_reducible exact Below.refl _ _ | (with_reducible refine Below.alloc ?_ ?_ _; rotate_left; (focus (first | omega | (simp; done) | (simp; omega)))) | with_reducible apply Below.drew | (with_reducible refine Below.setCell ?_ ?_ _; rotate_left; (focus (first | omega | (simp; done) | (simp; omega)))))))
        have HP_W0 := Lib.hid (HP.out.below HL_W0.out)
        have HU_W0 := Lib.hid (HU.out.below HL_W0.out)
        clear HL_W0
        clear hW HK_W0
        clear HR HB hN
        have hN := hN_W0
        have HB := HB_W0
        have hs0 := hs0_W0
        have hl_R := hl_R_W0
        have f_R := f_R_W0
        have HX_R := HX_R_W0
        have k_R_0 := k_R_0_W0
        have k_R_1 := k_R_1_W0
        have k_R_2 := k_R_2_W0
        have HR := HR_W0
        clear hN_W0 HB_W0 hs0_W0 hl_R_W0 f_R_W0 HX_R_W0 k_R_0_W0 k_R_1_W0 k_R_2_W0 HR_W0
        clear HP HU
        have HP := HP_W0
        have HU := HU_W0
        clear HP_W0 HU_W0
        refine (large_any _ _ _ _ _ _ _ _).mono ?_
        rw [HLG.out]
        rintro e wa ⟨rfl, hb⟩
        have HP_wa := Lib.hid (HP.out.below hb)
        have HU_wa := Lib.hid (HU.out.below hb)
        have hN_wa : N ≤ wa.heap.size := Nat.le_trans hN hb.size
        have hs_wa : W0.heap.size ≤ wa.heap.size := hb.size
        have hs0_wa : w.heap.size ≤ wa.heap.size := Nat.le_trans hs0 hb.size
        have hl_R_wa : w.heap.size < wa.heap.size := Nat.lt_of_lt_of_le hl_R hb.size
        have k_R_0_wa : wa.cell? ⟨w.heap.size, 0, none⟩ = some (.bool s) := (hb.cell (p := ⟨w.heap.size, 0, none⟩) hl_R).trans k_R_0
        have k_R_1_wa : wa.cell? ⟨w.heap.size, 1, none⟩ = some (.slice a na ca) := (hb.cell (p := ⟨w.heap.size, 1, none⟩) hl_R).trans k_R_1
        have k_R_2_wa : wa.cell? ⟨w.heap.size, 2, none⟩ = some (.slice d nd cd) := (hb.cell (p := ⟨w.heap.size, 2, none⟩) hl_R).trans k_R_2
        have f_R_wa : ∀ o, wa.frozen? ⟨w.heap.size, o, none⟩ = false := fun o => (hb.frozen (p := ⟨w.heap.size, o, none⟩) hl_R).trans (f_R o)
        have HX_R_wa := Lib.hid (HX_R.out.below hb)
        have HR_wa := Lib.hid (HR.out.below hb)
        have HB_wa := Lib.hid (HB.out.trans (hb.mono hs0))
        clear hb
        clear hl_R f_R HX_R k_R_0 k_R_1 k_R_2 HR HB hN hs0
        have hN := hN_wa
        have HB := HB_wa
        have hs0 := hs0_wa
        have hl_R := hl_R_wa
        have f_R := f_R_wa
        have HX_R := HX_R_wa
        have k_R_0 := k_R_0_wa
        have k_R_1 := k_R_1_wa
        have k_R_2 := k_R_2_wa
        have HR := HR_wa
        clear hN_wa HB_wa hs0_wa hl_R_wa f_R_wa HX_R_wa k_R_0_wa k_R_1_wa k_R_2_wa HR_wa
        clear HP HU
        have HP := HP_wa
        have HU := HU_wa
        clear HP_wa HU_wa
        go_wp2_with fail
        refine calls_name fun W1 hW => ?_
        have HL_W1 := Lib.hid (show Below wa.heap.size wa W1 by rw [← hW]; (repeat' (first | with_reducible exact Below.refl _ _ | (with_reducible refine Below.alloc ?_ ?_ _; rotate_left; (focus (first | omega | (simp; done) | (simp; omega)))) | with_reducible apply Below.drew | (with_reducible refine Below.setCell ?_ ?_ _; rotate_left; (focus (first | omega | (simp; done) | (simp; omega)))))))
        have hN_W1 : N ≤ W1.heap.size := by rw [← hW]; (first | omega | (simp; done) | (simp; omega))
        have hs_W1 : wa.heap.size ≤ W1.heap.size := by rw [← hW]; (first | omega | (simp; done) | (simp; omega))
        have hs0_W1 : w.heap.size ≤ W1.heap.size := by rw [← hW]; (first | omega | (simp; done) | (simp; omega))
        have hl_R_W1 : w.heap.size < W1.heap.size := by rw [← hW]; (first | omega | (simp; done) | (simp; omega))
        have k_R_0_W1 : W1.cell? ⟨w.heap.size, 0, none⟩ = some (.bool s) := (HL_W1.out.cell (p := ⟨w.heap.size, 0, none⟩) hl_R).trans k_R_0
        have k_R_1_W1 : W1.cell? ⟨w.heap.size, 1, none⟩ = some (.slice a na ca) := (HL_W1.out.cell (p := ⟨w.heap.size, 1, none⟩) hl_R).trans k_R_1
        have k_R_2_W1 : W1.cell? ⟨w.heap.size, 2, none⟩ = some (.slice d nd cd) := (HL_W1.out.cell (p := ⟨w.heap.size, 2, none⟩) hl_R).trans k_R_2
        have f_R_W1 : ∀ o, W1.frozen? ⟨w.heap.size, o, none⟩ = false := fun o => (HL_W1.out.frozen (p := ⟨w.heap.size, o, none⟩) hl_R).trans (f_R o)
        have HX_R_W1 := Lib.hid (show Bn W1 (w.heap.size) by rw [← hW]; (repeat' (first | with_reducible exact Kp.refl _ _ | with_reducible exact HX_R.out | with_reducible apply Kp.alloc | with_reducible apply Kp.drew | (with_reducible refine Kp.put ?_ ?_ ?_ _; rotate_left; (focus (first | omega | (simp; done) | (simp; omega))); rotate_left) | (with_reducible refine Bn.new _ _ _ _ ?_ ?_; (focus (first | omega | (simp; done) | (simp; omega))); decide) | with_reducible apply Bn.alloc | with_reducible apply Bn.drew | with_reducible apply Bn.set)))
        have HK_W1 := Lib.hid (show Kp N wa W1 by rw [← hW]; (repeat' (first | with_reducible exact Kp.refl _ _ | with_reducible exact HX_R.out | with_reducible apply Kp.alloc | with_reducible apply Kp.drew | (with_reducible refine Kp.put ?_ ?_ ?_ _; rotate_left; (focus (first | omega | (simp; done) | (simp; omega))); rotate_left) | (with_reducible refine Bn.new _ _ _ _ ?_ ?_; (focus (first | omega | (simp; done) | (simp; omega))); decide) | with_reducible apply Bn.alloc | with_reducible apply Bn.drew | with_reducible apply Bn.set)))
        have HR_W1 := Lib.hid (HR.out.keep HK_W1.out)
        have HB_W1 := Lib.hid (show Below w.heap.size w W1 by rw [← hW]; (repeat' (first | with_reducible exact Below.refl _ _ | with_reducible exact HB.out | (with_reducible refine Below.alloc ?_ ?_ _; rotate_left; (focus (first | omega | (simp; done) | (simp; omega)))) | with_reducible apply Below.drew | (with_reducible refine Below.setCell ?_ ?_ _; rotate_left; (focus (first | omega | (simp; done) | (simp; omega)))))))
        have HP_W1 := Lib.hid (HP.out.below HL_W1.out)
        have HU_W1 := Lib.hid (HU.out.below HL_W1.out)
        clear HL_W1
        clear hW HK_W1
        clear hl_R f_R HX_R k_R_0 k_R_1 k_R_2 HR HB hN hs0
        have hN := hN_W1
        have HB := HB_W1
        have hs0 := hs0_W1
        have hl_R := hl_R_W1
        have f_R := f_R_W1
        have HX_R := HX_R_W1
        have k_R_0 := k_R_0_W1
        have k_R_1 := k_R_1_W1
        have k_R_2 := k_R_2_W1
        have HR := HR_W1
        clear hN_W1 HB_W1 hs0_W1 hl_R_W1 f_R_W1 HX_R_W1 k_R_0_W1 k_R_1_W1 k_R_2_W1 HR_W1
        clear HP HU
        have HP := HP_W1
        have HU := HU_W1
        clear HP_W1 HU_W1
        refine (filter_any (N := N) _ n _ id _ m _ it ct served slack s a d na ca nd cd 20 q E _ hN HP.out HU.out h64 HR.out (by decide) (by omega) (by omega) HE.out).mono ?_
        rintro e wb ⟨v1, rfl, hi1, hb⟩
        have HP_wb := Lib.hid (HP.out.below hb)
        have HU_wb := Lib.hid (HU.out.below hb)
        have hN_wb : N ≤ wb.heap.size := Nat.le_trans hN hb.size
        have hs_wb : W1.heap.size ≤ wb.heap.size := hb.size
        have hs0_wb : w.heap.size ≤ wb.heap.size := Nat.le_trans hs0 hb.size
        have hl_R_wb : w.heap.size < wb.heap.size := Nat.lt_of_lt_of_le hl_R hb.size
        have k_R_0_wb : wb.cell? ⟨w.heap.size, 0, none⟩ = some (.bool s) := (hb.cell (p := ⟨w.heap.size, 0, none⟩) hl_R).trans k_R_0
        have k_R_1_wb : wb.cell? ⟨w.heap.size, 1, none⟩ = some (.slice a na ca) := (hb.cell (p := ⟨w.heap.size, 1, none⟩) hl_R).trans k_R_1
        have k_R_2_wb : wb.cell? ⟨w.heap.size, 2, none⟩ = some (.slice d nd cd) := (hb.cell (p := ⟨w.heap.size, 2, none⟩) hl_R).trans k_R_2
        have f_R_wb : ∀ o, wb.frozen? ⟨w.heap.size, o, none⟩ = false := fun o => (hb.frozen (p := ⟨w.heap.size, o, none⟩) hl_R).trans (f_R o)
        have HX_R_wb := Lib.hid (HX_R.out.below hb)
        have HR_wb := Lib.hid (HR.out.below hb)
        have HB_wb := Lib.hid (HB.out.trans (hb.mono hs0))
        clear hb
        clear hl_R f_R HX_R k_R_0 k_R_1 k_R_2 HR HB hN hs0
        have hN := hN_wb
        have HB := HB_wb
        have hs0 := hs0_wb
        have hl_R := hl_R_wb
        have f_R := f_R_wb
        have HX_R := HX_R_wb
        have k_R_0 := k_R_0_wb
        have k_R_1 := k_R_1_wb
        have k_R_2 := k_R_2_wb
        have HR := HR_wb
        clear hN_wb HB_wb hs0_wb hl_R_wb f_R_wb HX_R_wb k_R_0_wb k_R_1_wb k_R_2_wb HR_wb
        clear HP HU
        have HP := HP_wb
        have HU := HU_wb
        clear HP_wb HU_wb
        have HI1 := Lib.hid hi1
        clear hi1
        go_wp2_with fail
        refine calls_name fun W2 hW => ?_
        have HL_W2 := Lib.hid (show Below wb.heap.size wb W2 by rw [← hW]; (repeat' (first | with_reducible exact Below.refl _ _ | (with_reducible refine Below.alloc ?_ ?_ _; rotate_left; (focus (first | omega | (simp; done) | (simp; omega)))) | with_reducible apply Below.drew | (with_reducible refine Below.setCell ?_ ?_ _; rotate_left; (focus (first | omega | (simp; done) | (simp; omega)))))))
        have hN_W2 : N ≤ W2.heap.size := by rw [← hW]; (first | omega | (simp; done) | (simp; omega))
        have hs_W2 : wb.heap.size ≤ W2.heap.size := by rw [← hW]; (first | omega | (simp; done) | (simp; omega))
        have hs0_W2 : w.heap.size ≤ W2.heap.size := by rw [← hW]; (first | omega | (simp; done) | (simp; omega))
        have hl_R_W2 : w.heap.size < W2.heap.size := by rw [← hW]; (first | omega | (simp; done) | (simp; omega))
        have k_R_0_W2 : W2.cell? ⟨w.heap.size, 0, none⟩ = some (.bool s) := (HL_W2.out.cell (p := ⟨w.heap.size, 0, none⟩) hl_R).trans k_R_0
        have k_R_1_W2 : W2.cell? ⟨w.heap.size, 1, none⟩ = some (.slice a na ca) := (HL_W2.out.cell (p := ⟨w.heap.size, 1, none⟩) hl_R).trans k_R_1
        have k_R_2_W2 : W2.cell? ⟨w.heap.size, 2, none⟩ = some (.slice d nd cd) := (HL_W2.out.cell (p := ⟨w.heap.size, 2, none⟩) hl_R).trans k_R_2
        have f_R_W2 : ∀ o, W2.frozen? ⟨w.heap.size, o, none⟩ = false := fun o => (HL_W2.out.frozen (p := ⟨w.heap.size, o, none⟩) hl_R).trans (f_R o)
        have HX_R_W2 := Lib.hid (show Bn W2 (w.heap.size) by rw [← hW]; (repeat' (first | with_reducible exact Kp.refl _ _ | with_reducible exact HX_R.out | with_reducible apply Kp.alloc | with_reducible apply Kp.drew | (with_reducible refine Kp.put ?_ ?_ ?_ _; rotate_left; (focus (first | omega | (simp; done) | (simp; omega))); rotate_left) | (with_reducible refine Bn.new _ _ _ _ ?_ ?_; (focus (first | omega | (simp; done) | (simp; omega))); decide) | with_reducible apply Bn.alloc | with_reducible apply Bn.drew | with_reducible apply Bn.set)))
        have HK_W2 := Lib.hid (show Kp N wb W2 by rw [← hW]; (repeat' (first | with_reducible exact Kp.refl _ _ | with_reducible exact HX_R.out | with_reducible apply Kp.alloc | with_reducible apply Kp.drew | (with_reducible refine Kp.put ?_ ?_ ?_ _; rotate_left; (focus (first | omega | (simp; done) | (simp; omega))); rotate_left) | (with_reducible refine Bn.new _ _ _ _ ?_ ?_; (focus (first | omega | (simp; done) | (simp; omega))); decide) | with_reducible apply Bn.alloc | with_reducible apply Bn.drew | with_reducible apply Bn.set)))
        have HR_W2 := Lib.hid (HR.out.keep HK_W2.out)
        have HB_W2 := Lib.hid (show Below w.heap.size w W2 by rw [← hW]; (repeat' (first | with_reducible exact Below.refl _ _ | with_reducible exact HB.out | (with_reducible refine Below.alloc ?_ ?_ _; rotate_left; (focus (first | omega | (simp; done) | (simp; omega)))) | with_reducible apply Below.drew | (with_reducible refine Below.setCell ?_ ?_ _; rotate_left; (focus (first | omega | (simp; done) | (simp; omega)))))))
        have HP_W2 := Lib.hid (HP.out.below HL_W2.out)
        have HU_W2 := Lib.hid (HU.out.below HL_W2.out)
        have HI1_W2 := Lib.hid (HI1.out.below HL_W2.out)
        clear HL_W2
        clear hW HK_W2
        clear hl_R f_R HX_R k_R_0 k_R_1 k_R_2 HR HB hN hs0
        have hN := hN_W2
        have HB := HB_W2
        have hs0 := hs0_W2
        have hl_R := hl_R_W2
        have f_R := f_R_W2
        have HX_R := HX_R_W2
        have k_R_0 := k_R_0_W2
        have k_R_1 := k_R_1_W2
        have k_R_2 := k_R_2_W2
        have HR := HR_W2
        clear hN_W2 HB_W2 hs0_W2 hl_R_W2 f_R_W2 HX_R_W2 k_R_0_W2 k_R_1_W2 k_R_2_W2 HR_W2
        clear HP HU HI1
        have HP := HP_W2
        have HU := HU_W2
        have HI1 := HI1_W2
        clear HP_W2 HU_W2 HI1_W2
        refine (xfilter_any (N := N) _ n _ id _ m _ it ct served slack s a d na ca nd cd 20 q E _ hN HP.out HU.out h64 HR.out (by decide) (by omega) (by omega) HE.out).mono ?_
        rintro e wc ⟨v2, rfl, hi2, hb⟩
        have HP_wc := Lib.hid (HP.out.below hb)
        have HU_wc := Lib.hid (HU.out.below hb)
        have HI1_wc := Lib.hid (HI1.out.below hb)
        have hN_wc : N ≤ wc.heap.size := Nat.le_trans hN hb.size
        have hs_wc : W2.heap.size ≤ wc.heap.size := hb.size
        have hs0_wc : w.heap.size ≤ wc.heap.size := Nat.le_trans hs0 hb.size
        have hl_R_wc : w.heap.size < wc.heap.size := Nat.lt_of_lt_of_le hl_R hb.size
        have k_R_0_wc : wc.cell? ⟨w.heap.size, 0, none⟩ = some (.bool s) := (hb.cell (p := ⟨w.heap.size, 0, none⟩) hl_R).trans k_R_0
        have k_R_1_wc : wc.cell? ⟨w.heap.size, 1, none⟩ = some (.slice a na ca) := (hb.cell (p := ⟨w.heap.size, 1, none⟩) hl_R).trans k_R_1
        have k_R_2_wc : wc.cell? ⟨w.heap.size, 2, none⟩ = some (.slice d nd cd) := (hb.cell (p := ⟨w.heap.size, 2, none⟩) hl_R).trans k_R_2
        have f_R_wc : ∀ o, wc.frozen? ⟨w.heap.size, o, none⟩ = false := fun o => (hb.frozen (p := ⟨w.heap.size, o, none⟩) hl_R).trans (f_R o)
        have HX_R_wc := Lib.hid (HX_R.out.below hb)
        have HR_wc := Lib.hid (HR.out.below hb)
        have HB_wc := Lib.hid (HB.out.trans (hb.mono hs0))
        clear hb
        clear hl_R f_R HX_R k_R_0 k_R_1 k_R_2 HR HB hN hs0
        have hN := hN_wc
        have HB := HB_wc
        have hs0 := hs0_wc
        have hl_R := hl_R_wc
        have f_R := f_R_wc
        have HX_R := HX_R_wc
        have k_R_0 := k_R_0_wc
        have k_R_1 := k_R_1_wc
        have k_R_2 := k_R_2_wc
        have HR := HR_wc
        clear hN_wc HB_wc hs0_wc hl_R_wc f_R_wc HX_R_wc k_R_0_wc k_R_1_wc k_R_2_wc HR_wc
        clear HP HU HI1
        have HP := HP_wc
        have HU := HU_wc
        have HI1 := HI1_wc
        clear HP_wc HU_wc HI1_wc
        have HI2 := Lib.hid hi2
        clear hi2
        obtain ⟨L, hL⟩ : ∃ L, rise (fltI id E n) = L := ⟨_, rfl⟩
        rw [hL] at HI1 HI2
        clear hL
        obtain ⟨a1, c1, rfl, hz1⟩ := HI1.out.zs
        obtain ⟨a2, c2, rfl, hz2⟩ := HI2.out.zs
        have HZ1 := Lib.hid hz1
        have HZ2 := Lib.hid hz2
        have e1 := hz1.1
        have e2 := hz1.2.1
        have e3 := hz2.1
        have e4 := hz2.2.1
        unfold maxLen at e2 e4
        clear hz1 hz2 HI1 HI2
        obtain ⟨z, hz⟩ : ∃ z : Nat → Int, (fun j => L.getD j 0) = z := ⟨_, rfl⟩
        rw [hz] at HZ1 HZ2
        clear hz
        obtain ⟨l, hl⟩ : ∃ l, L.length = l := ⟨_, rfl⟩
        rw [hl] at HZ1 HZ2 e1 e3 ⊢
        clear hl
        go_wp2_with fail
        go_loopw [13] (fun i wr => ∃ k : Nat, k ≤ l ∧ i = .int .i64 k ∧ Below wc.heap.size wc wr) (fun i _ => l - (intOf i).toNat)
        case atStart => exact ⟨0, Nat.zero_le _, rfl, Below.refl _ _⟩
        case round =>
          obtain ⟨k, hk, rfl, hbel⟩ := hrel
          have HB2 := Lib.hid hbel
          have hsz := hbel.size
          by_cases hkl : k < l
          · obtain ⟨b5, o5, rfl, hc5⟩ := (HZ1.out.below hbel).2.2 (by omega)
            obtain ⟨b6, o6, rfl, hc6⟩ := (HZ2.out.below hbel).2.2 (by omega)
            have g5 := hc5 k hkl
            have g6 := hc6 k hkl
            obtain ⟨x, hx⟩ : ∃ x, z k = x := ⟨_, rfl⟩
            rw [hx] at g5 g6
            clear hc5 hc6 hx hbel
            have hix0 : (0 : Int) ≤ (k : Int) := by omega
            have hix1 : (k : Int) < (l : Int) := by omega
            go_wp2_with fail
            go_quiet (fail)
            go_wp2_with fail
            go_roundw
            case rel => exact ⟨k + 1, by omega, by go_num, below_drewN HB2.out _⟩
            case measure => simp [intOf]; omega
          · obtain rfl : k = l := by omega
            have HB3 := Lib.hid (HB.out.trans (hbel.mono hs0))
            clear hbel
            go_wp2_with fail
            go_ret
            exact ⟨rfl, HB3.out⟩

set_option maxRecDepth 100000 in
theorem exposureFilters_lifted (os : Os) (started : os.Started) (H : Type) (enc : TypeId × Value → H) :
    ReturnsInHanded {} Try.checked os 4 .any (Rows.exposureFiltersSpec.pre6 enc Try.prog Try.f4 Rows.exposureFiltersRow.domain false) (Rows.exposureFiltersSpec.post enc Try.prog Try.f4 false true false false) := by
  refine returnsInHanded_of_change (C := Try.checked) Try.own started (by kernel_rfl) Try.func4
    (ChangeSpec.witness6 (enc := enc) (C := Try.checked) false ⟨#[], #[.slice none 0 0, .slice none 0 0, .int .i64 0, .agg #[.bool false, .slice none 0 0, .slice none 0 0], .int .i64 0], []⟩ 8 (by kernel_rfl) (by kernel_rfl) (by kernel_rfl) (by kernel_rfl)) ?_
  intro W base args ds gs before hval0 hW hcnd _
  have hval : ∀ (j : Nat) t v, Try.f4.params[j]? = some t → args[j]? = some v → Value.okWide Try.prog W .any base t v := hval0
  have hW' := hW
  obtain ⟨p, q, hA0, hV, rfl, hfz, hnd⟩ := hW
  have hA : DataW.TrodAll enc Try.prog W 0 (fun _ => true) true Try.f4.params.toList args.toList ds p := hA0
  rw [Try.params4] at hA hval
  obtain ⟨v0, vs0, x0, ds0, p0, q0, hargs, rfl, rfl, h0, r0⟩ := trodAll_cons hA
  obtain ⟨v1, vs1, x1, ds1, p1, q1, rfl, rfl, rfl, h1, r1⟩ := trodAll_cons r0
  obtain ⟨v2, vs2, x2, ds2, p2, q2, rfl, rfl, rfl, h2, r2⟩ := trodAll_cons r1
  obtain ⟨v3, vs3, x3, ds3, p3, q3, rfl, rfl, rfl, h3, r3⟩ := trodAll_cons r2
  obtain ⟨v4, vs4, x4, ds4, p4, q4, rfl, rfl, rfl, h4, r4⟩ := trodAll_cons r3
  obtain ⟨rfl, rfl, rfl⟩ := trodAll_nil r4
  obtain rfl : args = #[v0, v1, v2, v3, v4] := by cases args; simp_all
  obtain ⟨rfl, rfl⟩ := trodVars_none hV
  have k0 := h0
  have lt0 : ∀ x ∈ p0, x.block < W.heap.size := by obtain ⟨m, hm⟩ := k0; exact DataW.trod_lt m _ _ _ hm
  obtain ⟨a0, n0, c0, rfl⟩ := okWide_slice Try.underlying32 (hval 0 32 v0 rfl rfl); obtain ⟨id0, hp0⟩ := open_pool h0
  have k1 := h1
  have lt1 : ∀ x ∈ p1, x.block < W.heap.size := by obtain ⟨m, hm⟩ := k1; exact DataW.trod_lt m _ _ _ hm
  obtain ⟨a1, n1, c1, rfl⟩ := okWide_slice Try.underlying22 (hval 1 22 v1 rfl rfl); obtain ⟨it1, ct1, hu1, h641⟩ := open_uses64 h1
  obtain ⟨a2, rfl, rfl, rfl, w2⟩ := open_int Try.underlying3 (hval 2 3 v2 rfl rfl) h2
  have k3 := h3
  have lt3 : ∀ x ∈ p3, x.block < W.heap.size := by obtain ⟨m, hm⟩ := k3; exact DataW.trod_lt m _ _ _ hm
  obtain ⟨s3, a3, n3, c3, m3, d3, nd3, cd3, md3, rfl, hn3, hd3⟩ := open_rat (hval 3 38 v3 rfl rfl) h3
  obtain ⟨a4, rfl, rfl, rfl, w4⟩ := open_int Try.underlying3 (hval 4 3 v4 rfl rfl) h4
  clear hA0 hval0
  refine (filters_walk (N := W.heap.size) a0 n0 c0 id0 a1 n1 c1 it1 ct1 a2 s3 a3 d3 n3 c3 nd3 cd3 a4 W m3 md3 (Nat.le_refl _) hp0 hu1 h641 hn3 hd3).mono fun e W' ⟨he, bel⟩ => ?_
  subst he
  exact ⟨_, rfl, _, _, _, [], _, [], hW', trodAll_mk1 (shut_bool Try.underlying4 _), (trodAll_cons_mk (Below.trod Try.laidOut (by kernel_rfl) (of_decide_eq_true (by kernel_rfl)) k0 bel lt0) (trodAll_cons_mk (Below.trod Try.laidOut (by kernel_rfl) (of_decide_eq_true (by kernel_rfl)) k1 bel lt1) (trodAll_cons_mk (shut_int Try.underlying3 w2) (trodAll_cons_mk (Below.trod Try.laidOut (by kernel_rfl) (of_decide_eq_true (by kernel_rfl)) k3 bel lt3) (trodAll_cons_mk (shut_int Try.underlying3 w4) trodAll_mk0))))), rfl, bel.frame _, fun h => by cases h⟩

theorem exposureFilters_holds : Rows.ExposureFiltersSaid :=
  OpenClaim.holds_of_wide 4 Try.f4 rfl rfl rfl rfl rfl rfl rfl ⟨rfl, rfl, rfl, rfl, rfl⟩ rfl rfl rfl rfl rfl (by kernel_rfl) Try.func4 (by kernel_rfl)
    (of_decide_eq_true (by kernel_rfl)) (by unfold Func.isWrapper; first | (rw [if_pos (by decide +kernel)]; kernel_rfl) | (rw [if_neg (by decide +kernel)]; exact ⟨rfl, rfl⟩))
    (fun os started H enc _ => exposureFilters_lifted os started H enc)
#print axioms exposureFilters_holds

end Go.Proofs.Ytmljfaplohbjcaa
