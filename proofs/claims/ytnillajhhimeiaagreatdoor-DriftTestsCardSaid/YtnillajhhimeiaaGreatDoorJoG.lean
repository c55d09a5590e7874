import Derived.Test.YtnillajhhimeiaaGreatDoorExU
namespace Go.Proofs.YtnillajhhimeiaaGreatDoor
open Go.RowKit
set_option maxHeartbeats 1000000 in
theorem Same_any {N : Nat} (a b : Option Addr) (n ca cb m : Nat) (w : World) (h : Nt N w a n ca m) (h' : Nt N w b n cb m) :
    Calls Tryz.prog 28 #[.slice a n ca,.slice b n cb] w fun e w' => e = .returned (.bool true) ∧ Below w.heap.size w w' := by
  have c1 := h.1.1
  have c2 := h.2.1
  have c3 := h'.1.1
  have c4 := h'.2.1
  unfold maxLen at c2 c4
  have HA := Lib.hid h
  have HB' := Lib.hid h'
  clear h h'
  go_enter Tryz.func28,Tryz.ntmps28
  go_wp2_with fail
  go_loopw [5] (fun i wr => ∃ k : Nat,k ≤ n ∧ i = .int .i64 k ∧ Below w.heap.size w wr) (fun i _ => n - (intOf i).toNat)
  case atStart => exact ⟨0,Nat.zero_le _,rfl,Below.refl _ _⟩
  case round =>
    obtain ⟨k,hk,rfl,hbel⟩ := hrel
    have HB := Lib.hid hbel
    by_cases hkn : k < n
    · obtain ⟨b1,o1,rfl,_,hc1⟩ := (HA.out.below hbel).2.2.2 (by omega)
      obtain ⟨b2,o2,rfl,_,hc2⟩ := (HB'.out.below hbel).2.2.2 (by omega)
      have g1 := hc1 k hkn
      have g2 := hc2 k hkn
      have hix0 : (0 : Int) ≤ (k : Int) := by omega
      have hix1 : (k : Int) < (n : Int) := by omega
      clear hc1 hc2 hbel
      go_wp2_with fail
      go_quiet (fail)
      go_wp2_with fail
      go_roundw
      case rel => exact ⟨k + 1,by omega,by go_num,below_drewN HB.out _⟩
      case measure => simp [intOf];omega
    · obtain rfl : k = n := by omega
      clear hbel
      go_wp2_with fail
      go_ret
      exact ⟨rfl,HB.out⟩
set_option maxHeartbeats 1000000 in
theorem SameInt_any {N : Nat} (s : Bool) (a b : Option Addr) (n ca cb m : Nat) (w : World) (hN : N ≤ w.heap.size) (h : Nt N w a n ca m) (h' : Nt N w b n cb m) :
    Calls Tryz.prog 27 #[.agg #[.bool s,.slice a n ca],.agg #[.bool s,.slice b n cb]] w fun e w' => e = .returned (.bool true) ∧ Below w.heap.size w w' := by
  have HA := Lib.hid h
  have HD := Lib.hid h'
  clear h h'
  cases s
  · have hN0 := hN
    have HB := Lib.hid (Below.refl w.heap.size w)
    go_enter Tryz.func27,Tryz.ntmps27
    go_wp2_with fail
    refine calls_name fun W0 hW => ?_
    have hs_W0 : w.heap.size ≤ W0.heap.size := by rw [← hW];(first | omega | (simp;done) | (simp;omega))
    have HK_W0 := Lib.hid (show Kp N w W0 by rw [← hW];exact KpA)
    have k_A_0 : W0.cell? ⟨w.heap.size,0,none⟩ = some (.bool false) := by rw [← hW];(first | (go_simp;done) | (simp;done) | (simp [go_sem];done) | (simp [go_sem];done))
    have k_A_1 : W0.cell? ⟨w.heap.size,1,none⟩ = some (.slice a n ca) := by rw [← hW];(first | (go_simp;done) | (simp;done) | (simp [go_sem];done) | (simp [go_sem];done))
    have f_A : ∀ o,W0.frozen? ⟨w.heap.size,o,none⟩ = false := by intro o;rw [← hW];(first | (go_simp;done) | (simp;done) | (simp [go_sem];done) | (simp [go_sem];done))
    have HX_A := Lib.hid (show Bn W0 (w.heap.size) by rw [← hW];exact KpA)
    have k_C_0 : W0.cell? ⟨w.heap.size + 1,0,none⟩ = some (.bool false) := by rw [← hW];(first | (go_simp;done) | (simp;done) | (simp [go_sem];done) | (simp [go_sem];done))
    have k_C_1 : W0.cell? ⟨w.heap.size + 1,1,none⟩ = some (.slice b n cb) := by rw [← hW];(first | (go_simp;done) | (simp;done) | (simp [go_sem];done) | (simp [go_sem];done))
    have f_C : ∀ o,W0.frozen? ⟨w.heap.size + 1,o,none⟩ = false := by intro o;rw [← hW];(first | (go_simp;done) | (simp;done) | (simp [go_sem];done) | (simp [go_sem];done))
    have HX_C := Lib.hid (show Bn W0 (w.heap.size + 1) by rw [← hW];exact KpA)
    replace HA := Lib.hid (HA.out.keep HK_W0.out)
    replace HD := Lib.hid (HD.out.keep HK_W0.out)
    replace HB := Lib.hid (show Below w.heap.size w W0 by rw [← hW];exact BlA)
    replace hN : N ≤ W0.heap.size := by rw [← hW];(first | omega | (simp;done) | (simp;omega))
    have hs0 : w.heap.size ≤ W0.heap.size := by rw [← hW];(first | omega | (simp;done) | (simp;omega))
    have hl_A : w.heap.size < W0.heap.size := by rw [← hW];(first | omega | (simp;done) | (simp;omega))
    have hl_C : w.heap.size + 1 < W0.heap.size := by rw [← hW];(first | omega | (simp;done) | (simp;omega))
    clear hW HK_W0
    refine (Same_any (N := N) _ _ _ _ _ m _ HA.out HD.out).mono ?_
    rintro e wa ⟨rfl,hb⟩
    have hs_wa : W0.heap.size ≤ wa.heap.size := hb.size
    replace k_A_0 : wa.cell? ⟨w.heap.size,0,none⟩ = some (.bool false) := (hb.cell (p := ⟨w.heap.size,0,none⟩) hl_A).trans k_A_0
    replace k_A_1 : wa.cell? ⟨w.heap.size,1,none⟩ = some (.slice a n ca) := (hb.cell (p := ⟨w.heap.size,1,none⟩) hl_A).trans k_A_1
    replace f_A : ∀ o,wa.frozen? ⟨w.heap.size,o,none⟩ = false := fun o => (hb.frozen (p := ⟨w.heap.size,o,none⟩) hl_A).trans (f_A o)
    replace HX_A := Lib.hid (HX_A.out.below hb)
    replace k_C_0 : wa.cell? ⟨w.heap.size + 1,0,none⟩ = some (.bool false) := (hb.cell (p := ⟨w.heap.size + 1,0,none⟩) hl_C).trans k_C_0
    replace k_C_1 : wa.cell? ⟨w.heap.size + 1,1,none⟩ = some (.slice b n cb) := (hb.cell (p := ⟨w.heap.size + 1,1,none⟩) hl_C).trans k_C_1
    replace f_C : ∀ o,wa.frozen? ⟨w.heap.size + 1,o,none⟩ = false := fun o => (hb.frozen (p := ⟨w.heap.size + 1,o,none⟩) hl_C).trans (f_C o)
    replace HX_C := Lib.hid (HX_C.out.below hb)
    replace HA := Lib.hid (HA.out.below hb)
    replace HD := Lib.hid (HD.out.below hb)
    replace HB := Lib.hid (HB.out.trans (hb.mono hs0))
    replace hN : N ≤ wa.heap.size := Nat.le_trans hN hb.size
    replace hs0 : w.heap.size ≤ wa.heap.size := Nat.le_trans hs0 hb.size
    replace hl_A : w.heap.size < wa.heap.size := Nat.lt_of_lt_of_le hl_A hb.size
    replace hl_C : w.heap.size + 1 < wa.heap.size := Nat.lt_of_lt_of_le hl_C hb.size
    clear hb
    go_wp2_with fail
    go_ret
    exact ⟨rfl,HB.out⟩
  · have hN0 := hN
    have HB := Lib.hid (Below.refl w.heap.size w)
    go_enter Tryz.func27,Tryz.ntmps27
    go_wp2_with fail
    refine calls_name fun W0 hW => ?_
    have hs_W0 : w.heap.size ≤ W0.heap.size := by rw [← hW];(first | omega | (simp;done) | (simp;omega))
    have HK_W0 := Lib.hid (show Kp N w W0 by rw [← hW];exact KpA)
    have k_A_0 : W0.cell? ⟨w.heap.size,0,none⟩ = some (.bool true) := by rw [← hW];(first | (go_simp;done) | (simp;done) | (simp [go_sem];done) | (simp [go_sem];done))
    have k_A_1 : W0.cell? ⟨w.heap.size,1,none⟩ = some (.slice a n ca) := by rw [← hW];(first | (go_simp;done) | (simp;done) | (simp [go_sem];done) | (simp [go_sem];done))
    have f_A : ∀ o,W0.frozen? ⟨w.heap.size,o,none⟩ = false := by intro o;rw [← hW];(first | (go_simp;done) | (simp;done) | (simp [go_sem];done) | (simp [go_sem];done))
    have HX_A := Lib.hid (show Bn W0 (w.heap.size) by rw [← hW];exact KpA)
    have k_C_0 : W0.cell? ⟨w.heap.size + 1,0,none⟩ = some (.bool true) := by rw [← hW];(first | (go_simp;done) | (simp;done) | (simp [go_sem];done) | (simp [go_sem];done))
    have k_C_1 : W0.cell? ⟨w.heap.size + 1,1,none⟩ = some (.slice b n cb) := by rw [← hW];(first | (go_simp;done) | (simp;done) | (simp [go_sem];done) | (simp [go_sem];done))
    have f_C : ∀ o,W0.frozen? ⟨w.heap.size + 1,o,none⟩ = false := by intro o;rw [← hW];(first | (go_simp;done) | (simp;done) | (simp [go_sem];done) | (simp [go_sem];done))
    have HX_C := Lib.hid (show Bn W0 (w.heap.size + 1) by rw [← hW];exact KpA)
    replace HA := Lib.hid (HA.out.keep HK_W0.out)
    replace HD := Lib.hid (HD.out.keep HK_W0.out)
    replace HB := Lib.hid (show Below w.heap.size w W0 by rw [← hW];exact BlA)
    replace hN : N ≤ W0.heap.size := by rw [← hW];(first | omega | (simp;done) | (simp;omega))
    have hs0 : w.heap.size ≤ W0.heap.size := by rw [← hW];(first | omega | (simp;done) | (simp;omega))
    have hl_A : w.heap.size < W0.heap.size := by rw [← hW];(first | omega | (simp;done) | (simp;omega))
    have hl_C : w.heap.size + 1 < W0.heap.size := by rw [← hW];(first | omega | (simp;done) | (simp;omega))
    clear hW HK_W0
    refine (Same_any (N := N) _ _ _ _ _ m _ HA.out HD.out).mono ?_
    rintro e wa ⟨rfl,hb⟩
    have hs_wa : W0.heap.size ≤ wa.heap.size := hb.size
    replace k_A_0 : wa.cell? ⟨w.heap.size,0,none⟩ = some (.bool true) := (hb.cell (p := ⟨w.heap.size,0,none⟩) hl_A).trans k_A_0
    replace k_A_1 : wa.cell? ⟨w.heap.size,1,none⟩ = some (.slice a n ca) := (hb.cell (p := ⟨w.heap.size,1,none⟩) hl_A).trans k_A_1
    replace f_A : ∀ o,wa.frozen? ⟨w.heap.size,o,none⟩ = false := fun o => (hb.frozen (p := ⟨w.heap.size,o,none⟩) hl_A).trans (f_A o)
    replace HX_A := Lib.hid (HX_A.out.below hb)
    replace k_C_0 : wa.cell? ⟨w.heap.size + 1,0,none⟩ = some (.bool true) := (hb.cell (p := ⟨w.heap.size + 1,0,none⟩) hl_C).trans k_C_0
    replace k_C_1 : wa.cell? ⟨w.heap.size + 1,1,none⟩ = some (.slice b n cb) := (hb.cell (p := ⟨w.heap.size + 1,1,none⟩) hl_C).trans k_C_1
    replace f_C : ∀ o,wa.frozen? ⟨w.heap.size + 1,o,none⟩ = false := fun o => (hb.frozen (p := ⟨w.heap.size + 1,o,none⟩) hl_C).trans (f_C o)
    replace HX_C := Lib.hid (HX_C.out.below hb)
    replace HA := Lib.hid (HA.out.below hb)
    replace HD := Lib.hid (HD.out.below hb)
    replace HB := Lib.hid (HB.out.trans (hb.mono hs0))
    replace hN : N ≤ wa.heap.size := Nat.le_trans hN hb.size
    replace hs0 : w.heap.size ≤ wa.heap.size := Nat.le_trans hs0 hb.size
    replace hl_A : w.heap.size < wa.heap.size := Nat.lt_of_lt_of_le hl_A hb.size
    replace hl_C : w.heap.size + 1 < wa.heap.size := Nat.lt_of_lt_of_le hl_C hb.size
    clear hb
    go_wp2_with fail
    go_ret
    exact ⟨rfl,HB.out⟩
set_option maxHeartbeats 1000000 in
theorem SameRatio_any {N : Nat} (s : Bool) (a b d e : Option Addr) (n ca cb m nd cd ce m2 : Nat) (w : World) (hN : N ≤ w.heap.size) (h : Nt N w a n ca m) (h' : Nt N w b n cb m) (g : Nt N w d nd cd m2) (g' : Nt N w e nd ce m2) :
    Calls Tryz.prog 10 #[.agg #[.bool s,.slice a n ca,.slice d nd cd],.agg #[.bool s,.slice b n cb,.slice e nd ce]] w fun e w' => e = .returned (.bool true) ∧ Below w.heap.size w w' := by
  have HA := Lib.hid h
  have HD := Lib.hid h'
  have HE := Lib.hid g
  have HF := Lib.hid g'
  clear h h' g g'
  have hN0 := hN
  have HB := Lib.hid (Below.refl w.heap.size w)
  go_enter Tryz.func10,Tryz.ntmps10
  go_wp2_with fail
  refine calls_name fun W0 hW => ?_
  have hs_W0 : w.heap.size ≤ W0.heap.size := by rw [← hW];(first | omega | (simp;done) | (simp;omega))
  have HK_W0 := Lib.hid (show Kp N w W0 by rw [← hW];exact KpA)
  have k_A_0 : W0.cell? ⟨w.heap.size,0,none⟩ = some (.bool s) := by rw [← hW];(first | (go_simp;done) | (simp;done) | (simp [go_sem];done) | (simp [go_sem];done))
  have k_A_1 : W0.cell? ⟨w.heap.size,1,none⟩ = some (.slice a n ca) := by rw [← hW];(first | (go_simp;done) | (simp;done) | (simp [go_sem];done) | (simp [go_sem];done))
  have k_A_2 : W0.cell? ⟨w.heap.size,2,none⟩ = some (.slice d nd cd) := by rw [← hW];(first | (go_simp;done) | (simp;done) | (simp [go_sem];done) | (simp [go_sem];done))
  have f_A : ∀ o,W0.frozen? ⟨w.heap.size,o,none⟩ = false := by intro o;rw [← hW];(first | (go_simp;done) | (simp;done) | (simp [go_sem];done) | (simp [go_sem];done))
  have HX_A := Lib.hid (show Bn W0 (w.heap.size) by rw [← hW];exact KpA)
  have k_C_0 : W0.cell? ⟨w.heap.size + 1,0,none⟩ = some (.bool s) := by rw [← hW];(first | (go_simp;done) | (simp;done) | (simp [go_sem];done) | (simp [go_sem];done))
  have k_C_1 : W0.cell? ⟨w.heap.size + 1,1,none⟩ = some (.slice b n cb) := by rw [← hW];(first | (go_simp;done) | (simp;done) | (simp [go_sem];done) | (simp [go_sem];done))
  have k_C_2 : W0.cell? ⟨w.heap.size + 1,2,none⟩ = some (.slice e nd ce) := by rw [← hW];(first | (go_simp;done) | (simp;done) | (simp [go_sem];done) | (simp [go_sem];done))
  have f_C : ∀ o,W0.frozen? ⟨w.heap.size + 1,o,none⟩ = false := by intro o;rw [← hW];(first | (go_simp;done) | (simp;done) | (simp [go_sem];done) | (simp [go_sem];done))
  have HX_C := Lib.hid (show Bn W0 (w.heap.size + 1) by rw [← hW];exact KpA)
  replace HA := Lib.hid (HA.out.keep HK_W0.out)
  replace HD := Lib.hid (HD.out.keep HK_W0.out)
  replace HE := Lib.hid (HE.out.keep HK_W0.out)
  replace HF := Lib.hid (HF.out.keep HK_W0.out)
  replace HB := Lib.hid (show Below w.heap.size w W0 by rw [← hW];exact BlA)
  replace hN : N ≤ W0.heap.size := by rw [← hW];(first | omega | (simp;done) | (simp;omega))
  have hs0 : w.heap.size ≤ W0.heap.size := by rw [← hW];(first | omega | (simp;done) | (simp;omega))
  have hl_A : w.heap.size < W0.heap.size := by rw [← hW];(first | omega | (simp;done) | (simp;omega))
  have hl_C : w.heap.size + 1 < W0.heap.size := by rw [← hW];(first | omega | (simp;done) | (simp;omega))
  clear hW HK_W0
  refine (SameInt_any (N := N) _ _ _ _ _ _ m _ hN HA.out HD.out).mono ?_
  rintro _ wa ⟨rfl,hb⟩
  have hs_wa : W0.heap.size ≤ wa.heap.size := hb.size
  replace k_A_0 : wa.cell? ⟨w.heap.size,0,none⟩ = some (.bool s) := (hb.cell (p := ⟨w.heap.size,0,none⟩) hl_A).trans k_A_0
  replace k_A_1 : wa.cell? ⟨w.heap.size,1,none⟩ = some (.slice a n ca) := (hb.cell (p := ⟨w.heap.size,1,none⟩) hl_A).trans k_A_1
  replace k_A_2 : wa.cell? ⟨w.heap.size,2,none⟩ = some (.slice d nd cd) := (hb.cell (p := ⟨w.heap.size,2,none⟩) hl_A).trans k_A_2
  replace f_A : ∀ o,wa.frozen? ⟨w.heap.size,o,none⟩ = false := fun o => (hb.frozen (p := ⟨w.heap.size,o,none⟩) hl_A).trans (f_A o)
  replace HX_A := Lib.hid (HX_A.out.below hb)
  replace k_C_0 : wa.cell? ⟨w.heap.size + 1,0,none⟩ = some (.bool s) := (hb.cell (p := ⟨w.heap.size + 1,0,none⟩) hl_C).trans k_C_0
  replace k_C_1 : wa.cell? ⟨w.heap.size + 1,1,none⟩ = some (.slice b n cb) := (hb.cell (p := ⟨w.heap.size + 1,1,none⟩) hl_C).trans k_C_1
  replace k_C_2 : wa.cell? ⟨w.heap.size + 1,2,none⟩ = some (.slice e nd ce) := (hb.cell (p := ⟨w.heap.size + 1,2,none⟩) hl_C).trans k_C_2
  replace f_C : ∀ o,wa.frozen? ⟨w.heap.size + 1,o,none⟩ = false := fun o => (hb.frozen (p := ⟨w.heap.size + 1,o,none⟩) hl_C).trans (f_C o)
  replace HX_C := Lib.hid (HX_C.out.below hb)
  replace HA := Lib.hid (HA.out.below hb)
  replace HD := Lib.hid (HD.out.below hb)
  replace HE := Lib.hid (HE.out.below hb)
  replace HF := Lib.hid (HF.out.below hb)
  replace HB := Lib.hid (HB.out.trans (hb.mono hs0))
  replace hN : N ≤ wa.heap.size := Nat.le_trans hN hb.size
  replace hs0 : w.heap.size ≤ wa.heap.size := Nat.le_trans hs0 hb.size
  replace hl_A : w.heap.size < wa.heap.size := Nat.lt_of_lt_of_le hl_A hb.size
  replace hl_C : w.heap.size + 1 < wa.heap.size := Nat.lt_of_lt_of_le hl_C hb.size
  clear hb
  go_wp2_with fail
  refine (Same_any (N := N) _ _ _ _ _ m2 _ HE.out HF.out).mono ?_
  rintro _ wb ⟨rfl,hb⟩
  have hs_wb : wa.heap.size ≤ wb.heap.size := hb.size
  replace k_A_0 : wb.cell? ⟨w.heap.size,0,none⟩ = some (.bool s) := (hb.cell (p := ⟨w.heap.size,0,none⟩) hl_A).trans k_A_0
  replace k_A_1 : wb.cell? ⟨w.heap.size,1,none⟩ = some (.slice a n ca) := (hb.cell (p := ⟨w.heap.size,1,none⟩) hl_A).trans k_A_1
  replace k_A_2 : wb.cell? ⟨w.heap.size,2,none⟩ = some (.slice d nd cd) := (hb.cell (p := ⟨w.heap.size,2,none⟩) hl_A).trans k_A_2
  replace f_A : ∀ o,wb.frozen? ⟨w.heap.size,o,none⟩ = false := fun o => (hb.frozen (p := ⟨w.heap.size,o,none⟩) hl_A).trans (f_A o)
  replace HX_A := Lib.hid (HX_A.out.below hb)
  replace k_C_0 : wb.cell? ⟨w.heap.size + 1,0,none⟩ = some (.bool s) := (hb.cell (p := ⟨w.heap.size + 1,0,none⟩) hl_C).trans k_C_0
  replace k_C_1 : wb.cell? ⟨w.heap.size + 1,1,none⟩ = some (.slice b n cb) := (hb.cell (p := ⟨w.heap.size + 1,1,none⟩) hl_C).trans k_C_1
  replace k_C_2 : wb.cell? ⟨w.heap.size + 1,2,none⟩ = some (.slice e nd ce) := (hb.cell (p := ⟨w.heap.size + 1,2,none⟩) hl_C).trans k_C_2
  replace f_C : ∀ o,wb.frozen? ⟨w.heap.size + 1,o,none⟩ = false := fun o => (hb.frozen (p := ⟨w.heap.size + 1,o,none⟩) hl_C).trans (f_C o)
  replace HX_C := Lib.hid (HX_C.out.below hb)
  replace HA := Lib.hid (HA.out.below hb)
  replace HD := Lib.hid (HD.out.below hb)
  replace HE := Lib.hid (HE.out.below hb)
  replace HF := Lib.hid (HF.out.below hb)
  replace HB := Lib.hid (HB.out.trans (hb.mono hs0))
  replace hN : N ≤ wb.heap.size := Nat.le_trans hN hb.size
  replace hs0 : w.heap.size ≤ wb.heap.size := Nat.le_trans hs0 hb.size
  replace hl_A : w.heap.size < wb.heap.size := Nat.lt_of_lt_of_le hl_A hb.size
  replace hl_C : w.heap.size + 1 < wb.heap.size := Nat.lt_of_lt_of_le hl_C hb.size
  clear hb
  go_wp2_with fail
  go_ret
  exact ⟨rfl,HB.out⟩
end Go.Proofs.YtnillajhhimeiaaGreatDoor
namespace Go.Proofs.YtnillajhhimeiaaGreatDoor
open Go.RowKit
def hyQ (t m d i : Nat) : Rat := frq (hyp t m d i) (chs t d)
theorem natQ_pos {n : Nat} (h : 0 < n) : (0 : Rat) < (n : Rat) := by exact_mod_cast h
theorem frq_nonneg (m d : Nat) : 0 ≤ frq m d := by
  unfold frq
  rw [← Rat.num_nonneg,Rat.num_mkRat]
  split
  · exact Int.le_refl _
  · exact Int.ediv_nonneg (by omega) (by omega)
theorem sQ_frq (f : Nat → Nat) (d : Nat) (n : Nat) : sQ (fun i => frq (f i) d) n = frq (sN f n) d := by
  rw [frq_div,sN_sQ,sQ_congr (g := fun i => (f i : Rat) * (d : Rat)⁻¹) (fun i _ => by rw [frq_div,Rat.div_def]),sQ_mulr,Rat.div_def]
theorem hyQ_valid (t m d : Nat) (ht : t ≤ 120) (hm : m ≤ t) (hd : d ≤ t) : valid (hyQ t m d) (min m d + 1) = true := by
  refine valid_iff.2 ⟨by omega,by omega,fun i _ => frq_nonneg _ _,?_⟩
  have e : sQ (hyQ t m d) (min m d + 1) = frq (sN (hyp t m d) (min m d + 1)) (chs t d) := sQ_frq _ _ _
  rw [e,hyp_total t m d hm,frq_div]
  have := natQ_ne (chs_pos hd)
  grind
theorem hyQ_len (t m d i : Nat) (ht : t ≤ 120) (hm : m ≤ t) : rsz (hyQ t m d i) ≤ 14 := by
  have h1 := chs_len m i (by omega)
  have h2 := chs_len (t - m) (d - i) (by omega)
  have h3 := chs_len t d (by omega)
  have h4 := nlen_mul (chs m i) (chs (t - m) (d - i))
  exact frq_len _ _ _ (by omega) (by unfold hyp;omega) (by omega)
end Go.Proofs.YtnillajhhimeiaaGreatDoor
