import Derived.Test.YtnillajhhimeiaaGreatDoorRfG
import Derived.Test.YtnillajhhimeiaaGreatDoorJoI
namespace Go.Proofs.YtnillajhhimeiaaGreatDoor
open Go.RowKit
def cntB (x : Int) : Bool := decide (0 ≤ x ∧ x ≤ 30)
theorem cntB_vld (a b c d : Int) : vldT a b c d = (cntB a && cntB b && cntB c && cntB d) := by
  cases e : vldT a b c d
  · cases e1 : (cntB a && cntB b && cntB c && cntB d)
    · rfl
    · simp only [Bool.and_eq_true,cntB,decide_eq_true_eq] at e1
      rw [vldT_iff.2 ⟨e1.1.1.1,e1.1.1.2,e1.1.2,e1.2⟩] at e;cases e
  · obtain ⟨h0,h1,h2,h3⟩ := vldT_iff.1 e
    unfold cntB
    rw [decide_eq_true h0,decide_eq_true h1,decide_eq_true h2,decide_eq_true h3];rfl
set_option maxHeartbeats 1000000 in
theorem xcount_is (x : Int) (w : World) (v : Bool) (hv : cntB x = v) : Calls Tryz.prog 26 #[.int .i64 x] w fun e w' => e = .returned (.bool v) ∧ Below w.heap.size w w' := by
  by_cases h0 : x < 0
  · obtain rfl : false = v := by rw [← hv];exact (decide_eq_false (by omega)).symm
    have d0 : decide (0 ≤ x) = false := decide_eq_false (by omega)
    clear hv
    go_enter Tryz.func26,Tryz.ntmps26
    go_wp2_with fail
    go_ret
    exact ⟨rfl,Below.refl _ _⟩
  · have d0 : decide (0 ≤ x) = true := decide_eq_true (by omega)
    have d1 : decide (x ≤ 30) = v := by rw [← hv];unfold cntB;exact decide_eq_decide.2 ⟨fun h => ⟨by omega,h⟩,fun h => h.2⟩
    clear hv
    go_enter Tryz.func26,Tryz.ntmps26
    go_wp2_with fail
    go_ret
    exact ⟨rfl,Below.refl _ _⟩
set_option maxHeartbeats 2000000 in
theorem xtvalid_any (a b c d : Int) (w : World) (v : Bool) (hv : vldT a b c d = v) :
    Calls Tryz.prog 9 #[.agg #[.int .i64 a,.int .i64 b,.int .i64 c,.int .i64 d]] w fun e w' => e = .returned (.bool v) ∧ Below w.heap.size w w' := by
  have HB := Lib.hid (Below.refl w.heap.size w)
  go_enter Tryz.func9,Tryz.ntmps9
  go_wp2_with fail
  refine calls_name fun W0 hW => ?_
  have hs_W0 : w.heap.size ≤ W0.heap.size := by rw [← hW];(first | omega | (simp;done) | (simp;omega))
  have k_T_0 : W0.cell? ⟨w.heap.size,0,none⟩ = some (.int .i64 a) := by rw [← hW];(first | (go_simp;done) | (simp;done) | (simp [go_sem];done) | (simp [go_sem];done))
  have k_T_1 : W0.cell? ⟨w.heap.size,1,none⟩ = some (.int .i64 b) := by rw [← hW];(first | (go_simp;done) | (simp;done) | (simp [go_sem];done) | (simp [go_sem];done))
  have k_T_2 : W0.cell? ⟨w.heap.size,2,none⟩ = some (.int .i64 c) := by rw [← hW];(first | (go_simp;done) | (simp;done) | (simp [go_sem];done) | (simp [go_sem];done))
  have k_T_3 : W0.cell? ⟨w.heap.size,3,none⟩ = some (.int .i64 d) := by rw [← hW];(first | (go_simp;done) | (simp;done) | (simp [go_sem];done) | (simp [go_sem];done))
  have f_T : ∀ o,W0.frozen? ⟨w.heap.size,o,none⟩ = false := by intro o;rw [← hW];(first | (go_simp;done) | (simp;done) | (simp [go_sem];done) | (simp [go_sem];done))
  have HX_T := Lib.hid (show Bn W0 (w.heap.size) by rw [← hW];exact KpA)
  replace HB := Lib.hid (show Below w.heap.size w W0 by rw [← hW];exact BlA)
  have hs0 : w.heap.size ≤ W0.heap.size := by rw [← hW];(first | omega | (simp;done) | (simp;omega))
  have hl_T : w.heap.size < W0.heap.size := by rw [← hW];(first | omega | (simp;done) | (simp;omega))
  clear hW
  have HV := hv
  rw [cntB_vld] at HV
  clear hv
  obtain ⟨va,hva⟩ : ∃ v,cntB a = v := ⟨_,rfl⟩
  have Ha := Lib.hid hva
  rw [hva] at HV
  clear hva
  cases va
  · refine (xcount_is a _ false Ha.out).mono ?_
    rintro e w0 ⟨rfl,hb⟩
    have hs_w0 : W0.heap.size ≤ w0.heap.size := hb.size
    replace k_T_0 : w0.cell? ⟨w.heap.size,0,none⟩ = some (.int .i64 a) := (hb.cell (p := ⟨w.heap.size,0,none⟩) hl_T).trans k_T_0
    replace k_T_1 : w0.cell? ⟨w.heap.size,1,none⟩ = some (.int .i64 b) := (hb.cell (p := ⟨w.heap.size,1,none⟩) hl_T).trans k_T_1
    replace k_T_2 : w0.cell? ⟨w.heap.size,2,none⟩ = some (.int .i64 c) := (hb.cell (p := ⟨w.heap.size,2,none⟩) hl_T).trans k_T_2
    replace k_T_3 : w0.cell? ⟨w.heap.size,3,none⟩ = some (.int .i64 d) := (hb.cell (p := ⟨w.heap.size,3,none⟩) hl_T).trans k_T_3
    replace f_T : ∀ o,w0.frozen? ⟨w.heap.size,o,none⟩ = false := fun o => (hb.frozen (p := ⟨w.heap.size,o,none⟩) hl_T).trans (f_T o)
    replace HX_T := Lib.hid (HX_T.out.below hb)
    replace HB := Lib.hid (HB.out.trans (hb.mono hs0))
    replace hs0 : w.heap.size ≤ w0.heap.size := Nat.le_trans hs0 hb.size
    replace hl_T : w.heap.size < w0.heap.size := Nat.lt_of_lt_of_le hl_T hb.size
    clear hb
    go_wp2_with fail
    go_ret
    exact ⟨by rw [← HV];simp,HB.out⟩
  · refine (xcount_is a _ true Ha.out).mono ?_
    rintro e w0 ⟨rfl,hb⟩
    have hs_w0 : W0.heap.size ≤ w0.heap.size := hb.size
    replace k_T_0 : w0.cell? ⟨w.heap.size,0,none⟩ = some (.int .i64 a) := (hb.cell (p := ⟨w.heap.size,0,none⟩) hl_T).trans k_T_0
    replace k_T_1 : w0.cell? ⟨w.heap.size,1,none⟩ = some (.int .i64 b) := (hb.cell (p := ⟨w.heap.size,1,none⟩) hl_T).trans k_T_1
    replace k_T_2 : w0.cell? ⟨w.heap.size,2,none⟩ = some (.int .i64 c) := (hb.cell (p := ⟨w.heap.size,2,none⟩) hl_T).trans k_T_2
    replace k_T_3 : w0.cell? ⟨w.heap.size,3,none⟩ = some (.int .i64 d) := (hb.cell (p := ⟨w.heap.size,3,none⟩) hl_T).trans k_T_3
    replace f_T : ∀ o,w0.frozen? ⟨w.heap.size,o,none⟩ = false := fun o => (hb.frozen (p := ⟨w.heap.size,o,none⟩) hl_T).trans (f_T o)
    replace HX_T := Lib.hid (HX_T.out.below hb)
    replace HB := Lib.hid (HB.out.trans (hb.mono hs0))
    replace hs0 : w.heap.size ≤ w0.heap.size := Nat.le_trans hs0 hb.size
    replace hl_T : w.heap.size < w0.heap.size := Nat.lt_of_lt_of_le hl_T hb.size
    clear hb
    go_wp2_with fail
    refine calls_name fun V0 hW => ?_
    have HL_V0 := Lib.hid (show Below w0.heap.size w0 V0 by rw [← hW];exact BlA)
    have hs_V0 : w0.heap.size ≤ V0.heap.size := by rw [← hW];(first | omega | (simp;done) | (simp;omega))
    replace k_T_0 : V0.cell? ⟨w.heap.size,0,none⟩ = some (.int .i64 a) := (HL_V0.out.cell (p := ⟨w.heap.size,0,none⟩) hl_T).trans k_T_0
    replace k_T_1 : V0.cell? ⟨w.heap.size,1,none⟩ = some (.int .i64 b) := (HL_V0.out.cell (p := ⟨w.heap.size,1,none⟩) hl_T).trans k_T_1
    replace k_T_2 : V0.cell? ⟨w.heap.size,2,none⟩ = some (.int .i64 c) := (HL_V0.out.cell (p := ⟨w.heap.size,2,none⟩) hl_T).trans k_T_2
    replace k_T_3 : V0.cell? ⟨w.heap.size,3,none⟩ = some (.int .i64 d) := (HL_V0.out.cell (p := ⟨w.heap.size,3,none⟩) hl_T).trans k_T_3
    replace f_T : ∀ o,V0.frozen? ⟨w.heap.size,o,none⟩ = false := fun o => (HL_V0.out.frozen (p := ⟨w.heap.size,o,none⟩) hl_T).trans (f_T o)
    replace HX_T := Lib.hid (show Bn V0 (w.heap.size) by rw [← hW];exact KpA)
    replace HB := Lib.hid (show Below w.heap.size w V0 by rw [← hW];exact BlA)
    replace hs0 : w.heap.size ≤ V0.heap.size := by rw [← hW];(first | omega | (simp;done) | (simp;omega))
    replace hl_T : w.heap.size < V0.heap.size := by rw [← hW];(first | omega | (simp;done) | (simp;omega))
    clear HL_V0
    clear hW
    obtain ⟨vb,hvb⟩ : ∃ v,cntB b = v := ⟨_,rfl⟩
    have Hb := Lib.hid hvb
    rw [hvb] at HV
    clear hvb
    cases vb
    · refine (xcount_is b _ false Hb.out).mono ?_
      rintro e w1 ⟨rfl,hb⟩
      have hs_w1 : V0.heap.size ≤ w1.heap.size := hb.size
      replace k_T_0 : w1.cell? ⟨w.heap.size,0,none⟩ = some (.int .i64 a) := (hb.cell (p := ⟨w.heap.size,0,none⟩) hl_T).trans k_T_0
      replace k_T_1 : w1.cell? ⟨w.heap.size,1,none⟩ = some (.int .i64 b) := (hb.cell (p := ⟨w.heap.size,1,none⟩) hl_T).trans k_T_1
      replace k_T_2 : w1.cell? ⟨w.heap.size,2,none⟩ = some (.int .i64 c) := (hb.cell (p := ⟨w.heap.size,2,none⟩) hl_T).trans k_T_2
      replace k_T_3 : w1.cell? ⟨w.heap.size,3,none⟩ = some (.int .i64 d) := (hb.cell (p := ⟨w.heap.size,3,none⟩) hl_T).trans k_T_3
      replace f_T : ∀ o,w1.frozen? ⟨w.heap.size,o,none⟩ = false := fun o => (hb.frozen (p := ⟨w.heap.size,o,none⟩) hl_T).trans (f_T o)
      replace HX_T := Lib.hid (HX_T.out.below hb)
      replace HB := Lib.hid (HB.out.trans (hb.mono hs0))
      replace hs0 : w.heap.size ≤ w1.heap.size := Nat.le_trans hs0 hb.size
      replace hl_T : w.heap.size < w1.heap.size := Nat.lt_of_lt_of_le hl_T hb.size
      clear hb
      go_wp2_with fail
      go_ret
      exact ⟨by rw [← HV];simp,HB.out⟩
    · refine (xcount_is b _ true Hb.out).mono ?_
      rintro e w1 ⟨rfl,hb⟩
      have hs_w1 : V0.heap.size ≤ w1.heap.size := hb.size
      replace k_T_0 : w1.cell? ⟨w.heap.size,0,none⟩ = some (.int .i64 a) := (hb.cell (p := ⟨w.heap.size,0,none⟩) hl_T).trans k_T_0
      replace k_T_1 : w1.cell? ⟨w.heap.size,1,none⟩ = some (.int .i64 b) := (hb.cell (p := ⟨w.heap.size,1,none⟩) hl_T).trans k_T_1
      replace k_T_2 : w1.cell? ⟨w.heap.size,2,none⟩ = some (.int .i64 c) := (hb.cell (p := ⟨w.heap.size,2,none⟩) hl_T).trans k_T_2
      replace k_T_3 : w1.cell? ⟨w.heap.size,3,none⟩ = some (.int .i64 d) := (hb.cell (p := ⟨w.heap.size,3,none⟩) hl_T).trans k_T_3
      replace f_T : ∀ o,w1.frozen? ⟨w.heap.size,o,none⟩ = false := fun o => (hb.frozen (p := ⟨w.heap.size,o,none⟩) hl_T).trans (f_T o)
      replace HX_T := Lib.hid (HX_T.out.below hb)
      replace HB := Lib.hid (HB.out.trans (hb.mono hs0))
      replace hs0 : w.heap.size ≤ w1.heap.size := Nat.le_trans hs0 hb.size
      replace hl_T : w.heap.size < w1.heap.size := Nat.lt_of_lt_of_le hl_T hb.size
      clear hb
      go_wp2_with fail
      refine calls_name fun V1 hW => ?_
      have HL_V1 := Lib.hid (show Below w1.heap.size w1 V1 by rw [← hW];exact BlA)
      have hs_V1 : w1.heap.size ≤ V1.heap.size := by rw [← hW];(first | omega | (simp;done) | (simp;omega))
      replace k_T_0 : V1.cell? ⟨w.heap.size,0,none⟩ = some (.int .i64 a) := (HL_V1.out.cell (p := ⟨w.heap.size,0,none⟩) hl_T).trans k_T_0
      replace k_T_1 : V1.cell? ⟨w.heap.size,1,none⟩ = some (.int .i64 b) := (HL_V1.out.cell (p := ⟨w.heap.size,1,none⟩) hl_T).trans k_T_1
      replace k_T_2 : V1.cell? ⟨w.heap.size,2,none⟩ = some (.int .i64 c) := (HL_V1.out.cell (p := ⟨w.heap.size,2,none⟩) hl_T).trans k_T_2
      replace k_T_3 : V1.cell? ⟨w.heap.size,3,none⟩ = some (.int .i64 d) := (HL_V1.out.cell (p := ⟨w.heap.size,3,none⟩) hl_T).trans k_T_3
      replace f_T : ∀ o,V1.frozen? ⟨w.heap.size,o,none⟩ = false := fun o => (HL_V1.out.frozen (p := ⟨w.heap.size,o,none⟩) hl_T).trans (f_T o)
      replace HX_T := Lib.hid (show Bn V1 (w.heap.size) by rw [← hW];exact KpA)
      replace HB := Lib.hid (show Below w.heap.size w V1 by rw [← hW];exact BlA)
      replace hs0 : w.heap.size ≤ V1.heap.size := by rw [← hW];(first | omega | (simp;done) | (simp;omega))
      replace hl_T : w.heap.size < V1.heap.size := by rw [← hW];(first | omega | (simp;done) | (simp;omega))
      clear HL_V1
      clear hW
      obtain ⟨vc,hvc⟩ : ∃ v,cntB c = v := ⟨_,rfl⟩
      have Hc := Lib.hid hvc
      rw [hvc] at HV
      clear hvc
      cases vc
      · refine (xcount_is c _ false Hc.out).mono ?_
        rintro e w2 ⟨rfl,hb⟩
        have hs_w2 : V1.heap.size ≤ w2.heap.size := hb.size
        replace k_T_0 : w2.cell? ⟨w.heap.size,0,none⟩ = some (.int .i64 a) := (hb.cell (p := ⟨w.heap.size,0,none⟩) hl_T).trans k_T_0
        replace k_T_1 : w2.cell? ⟨w.heap.size,1,none⟩ = some (.int .i64 b) := (hb.cell (p := ⟨w.heap.size,1,none⟩) hl_T).trans k_T_1
        replace k_T_2 : w2.cell? ⟨w.heap.size,2,none⟩ = some (.int .i64 c) := (hb.cell (p := ⟨w.heap.size,2,none⟩) hl_T).trans k_T_2
        replace k_T_3 : w2.cell? ⟨w.heap.size,3,none⟩ = some (.int .i64 d) := (hb.cell (p := ⟨w.heap.size,3,none⟩) hl_T).trans k_T_3
        replace f_T : ∀ o,w2.frozen? ⟨w.heap.size,o,none⟩ = false := fun o => (hb.frozen (p := ⟨w.heap.size,o,none⟩) hl_T).trans (f_T o)
        replace HX_T := Lib.hid (HX_T.out.below hb)
        replace HB := Lib.hid (HB.out.trans (hb.mono hs0))
        replace hs0 : w.heap.size ≤ w2.heap.size := Nat.le_trans hs0 hb.size
        replace hl_T : w.heap.size < w2.heap.size := Nat.lt_of_lt_of_le hl_T hb.size
        clear hb
        go_wp2_with fail
        go_ret
        exact ⟨by rw [← HV];simp,HB.out⟩
      · refine (xcount_is c _ true Hc.out).mono ?_
        rintro e w2 ⟨rfl,hb⟩
        have hs_w2 : V1.heap.size ≤ w2.heap.size := hb.size
        replace k_T_0 : w2.cell? ⟨w.heap.size,0,none⟩ = some (.int .i64 a) := (hb.cell (p := ⟨w.heap.size,0,none⟩) hl_T).trans k_T_0
        replace k_T_1 : w2.cell? ⟨w.heap.size,1,none⟩ = some (.int .i64 b) := (hb.cell (p := ⟨w.heap.size,1,none⟩) hl_T).trans k_T_1
        replace k_T_2 : w2.cell? ⟨w.heap.size,2,none⟩ = some (.int .i64 c) := (hb.cell (p := ⟨w.heap.size,2,none⟩) hl_T).trans k_T_2
        replace k_T_3 : w2.cell? ⟨w.heap.size,3,none⟩ = some (.int .i64 d) := (hb.cell (p := ⟨w.heap.size,3,none⟩) hl_T).trans k_T_3
        replace f_T : ∀ o,w2.frozen? ⟨w.heap.size,o,none⟩ = false := fun o => (hb.frozen (p := ⟨w.heap.size,o,none⟩) hl_T).trans (f_T o)
        replace HX_T := Lib.hid (HX_T.out.below hb)
        replace HB := Lib.hid (HB.out.trans (hb.mono hs0))
        replace hs0 : w.heap.size ≤ w2.heap.size := Nat.le_trans hs0 hb.size
        replace hl_T : w.heap.size < w2.heap.size := Nat.lt_of_lt_of_le hl_T hb.size
        clear hb
        go_wp2_with fail
        refine calls_name fun V2 hW => ?_
        have HL_V2 := Lib.hid (show Below w2.heap.size w2 V2 by rw [← hW];exact BlA)
        have hs_V2 : w2.heap.size ≤ V2.heap.size := by rw [← hW];(first | omega | (simp;done) | (simp;omega))
        replace k_T_0 : V2.cell? ⟨w.heap.size,0,none⟩ = some (.int .i64 a) := (HL_V2.out.cell (p := ⟨w.heap.size,0,none⟩) hl_T).trans k_T_0
        replace k_T_1 : V2.cell? ⟨w.heap.size,1,none⟩ = some (.int .i64 b) := (HL_V2.out.cell (p := ⟨w.heap.size,1,none⟩) hl_T).trans k_T_1
        replace k_T_2 : V2.cell? ⟨w.heap.size,2,none⟩ = some (.int .i64 c) := (HL_V2.out.cell (p := ⟨w.heap.size,2,none⟩) hl_T).trans k_T_2
        replace k_T_3 : V2.cell? ⟨w.heap.size,3,none⟩ = some (.int .i64 d) := (HL_V2.out.cell (p := ⟨w.heap.size,3,none⟩) hl_T).trans k_T_3
        replace f_T : ∀ o,V2.frozen? ⟨w.heap.size,o,none⟩ = false := fun o => (HL_V2.out.frozen (p := ⟨w.heap.size,o,none⟩) hl_T).trans (f_T o)
        replace HX_T := Lib.hid (show Bn V2 (w.heap.size) by rw [← hW];exact KpA)
        replace HB := Lib.hid (show Below w.heap.size w V2 by rw [← hW];exact BlA)
        replace hs0 : w.heap.size ≤ V2.heap.size := by rw [← hW];(first | omega | (simp;done) | (simp;omega))
        replace hl_T : w.heap.size < V2.heap.size := by rw [← hW];(first | omega | (simp;done) | (simp;omega))
        clear HL_V2
        clear hW
        obtain ⟨vd,hvd⟩ : ∃ v,cntB d = v := ⟨_,rfl⟩
        have Hd := Lib.hid hvd
        rw [hvd] at HV
        clear hvd
        cases vd
        · refine (xcount_is d _ false Hd.out).mono ?_
          rintro e w3 ⟨rfl,hb⟩
          have hs_w3 : V2.heap.size ≤ w3.heap.size := hb.size
          replace k_T_0 : w3.cell? ⟨w.heap.size,0,none⟩ = some (.int .i64 a) := (hb.cell (p := ⟨w.heap.size,0,none⟩) hl_T).trans k_T_0
          replace k_T_1 : w3.cell? ⟨w.heap.size,1,none⟩ = some (.int .i64 b) := (hb.cell (p := ⟨w.heap.size,1,none⟩) hl_T).trans k_T_1
          replace k_T_2 : w3.cell? ⟨w.heap.size,2,none⟩ = some (.int .i64 c) := (hb.cell (p := ⟨w.heap.size,2,none⟩) hl_T).trans k_T_2
          replace k_T_3 : w3.cell? ⟨w.heap.size,3,none⟩ = some (.int .i64 d) := (hb.cell (p := ⟨w.heap.size,3,none⟩) hl_T).trans k_T_3
          replace f_T : ∀ o,w3.frozen? ⟨w.heap.size,o,none⟩ = false := fun o => (hb.frozen (p := ⟨w.heap.size,o,none⟩) hl_T).trans (f_T o)
          replace HX_T := Lib.hid (HX_T.out.below hb)
          replace HB := Lib.hid (HB.out.trans (hb.mono hs0))
          replace hs0 : w.heap.size ≤ w3.heap.size := Nat.le_trans hs0 hb.size
          replace hl_T : w.heap.size < w3.heap.size := Nat.lt_of_lt_of_le hl_T hb.size
          clear hb
          go_wp2_with fail
          go_ret
          exact ⟨by rw [← HV];simp,HB.out⟩
        · refine (xcount_is d _ true Hd.out).mono ?_
          rintro e w3 ⟨rfl,hb⟩
          have hs_w3 : V2.heap.size ≤ w3.heap.size := hb.size
          replace k_T_0 : w3.cell? ⟨w.heap.size,0,none⟩ = some (.int .i64 a) := (hb.cell (p := ⟨w.heap.size,0,none⟩) hl_T).trans k_T_0
          replace k_T_1 : w3.cell? ⟨w.heap.size,1,none⟩ = some (.int .i64 b) := (hb.cell (p := ⟨w.heap.size,1,none⟩) hl_T).trans k_T_1
          replace k_T_2 : w3.cell? ⟨w.heap.size,2,none⟩ = some (.int .i64 c) := (hb.cell (p := ⟨w.heap.size,2,none⟩) hl_T).trans k_T_2
          replace k_T_3 : w3.cell? ⟨w.heap.size,3,none⟩ = some (.int .i64 d) := (hb.cell (p := ⟨w.heap.size,3,none⟩) hl_T).trans k_T_3
          replace f_T : ∀ o,w3.frozen? ⟨w.heap.size,o,none⟩ = false := fun o => (hb.frozen (p := ⟨w.heap.size,o,none⟩) hl_T).trans (f_T o)
          replace HX_T := Lib.hid (HX_T.out.below hb)
          replace HB := Lib.hid (HB.out.trans (hb.mono hs0))
          replace hs0 : w.heap.size ≤ w3.heap.size := Nat.le_trans hs0 hb.size
          replace hl_T : w.heap.size < w3.heap.size := Nat.lt_of_lt_of_le hl_T hb.size
          clear hb
          go_wp2_with fail
          go_ret
          exact ⟨by rw [← HV];rfl,HB.out⟩
set_option maxHeartbeats 2000000 in
theorem xfisher_bad {N : Nat} (a b c d : Int) (w : World) (hN : N ≤ w.heap.size) (hv : vldT a b c d = false) :
    Calls Tryz.prog 7 #[.agg #[.int .i64 a,.int .i64 b,.int .i64 c,.int .i64 d]] w (RatErr w 3) := by
  have HV := Lib.hid hv
  clear hv
  have hN0 := hN
  have HB := Lib.hid (Below.refl w.heap.size w)
  go_enter Tryz.func7,Tryz.ntmps7
  go_wp2_with fail
  refine calls_name fun W0 hW => ?_
  have hs_W0 : w.heap.size ≤ W0.heap.size := by rw [← hW];(first | omega | (simp;done) | (simp;omega))
  have k_T_0 : W0.cell? ⟨w.heap.size,0,none⟩ = some (.int .i64 a) := by rw [← hW];(first | (go_simp;done) | (simp;done) | (simp [go_sem];done) | (simp [go_sem];done))
  have k_T_1 : W0.cell? ⟨w.heap.size,1,none⟩ = some (.int .i64 b) := by rw [← hW];(first | (go_simp;done) | (simp;done) | (simp [go_sem];done) | (simp [go_sem];done))
  have k_T_2 : W0.cell? ⟨w.heap.size,2,none⟩ = some (.int .i64 c) := by rw [← hW];(first | (go_simp;done) | (simp;done) | (simp [go_sem];done) | (simp [go_sem];done))
  have k_T_3 : W0.cell? ⟨w.heap.size,3,none⟩ = some (.int .i64 d) := by rw [← hW];(first | (go_simp;done) | (simp;done) | (simp [go_sem];done) | (simp [go_sem];done))
  have f_T : ∀ o,W0.frozen? ⟨w.heap.size,o,none⟩ = false := by intro o;rw [← hW];(first | (go_simp;done) | (simp;done) | (simp [go_sem];done) | (simp [go_sem];done))
  have HX_T := Lib.hid (show Bn W0 (w.heap.size) by rw [← hW];exact KpA)
  have k_R_0 : W0.cell? ⟨w.heap.size + 1,0,none⟩ = some (.bool false) := by rw [← hW];(first | (go_simp;done) | (simp;done) | (simp [go_sem];done) | (simp [go_sem];done))
  have k_R_1 : W0.cell? ⟨w.heap.size + 1,1,none⟩ = some (.slice none 0 0) := by rw [← hW];(first | (go_simp;done) | (simp;done) | (simp [go_sem];done) | (simp [go_sem];done))
  have k_R_2 : W0.cell? ⟨w.heap.size + 1,2,none⟩ = some (.slice none 0 0) := by rw [← hW];(first | (go_simp;done) | (simp;done) | (simp [go_sem];done) | (simp [go_sem];done))
  have f_R : ∀ o,W0.frozen? ⟨w.heap.size + 1,o,none⟩ = false := by intro o;rw [← hW];(first | (go_simp;done) | (simp;done) | (simp [go_sem];done) | (simp [go_sem];done))
  have HX_R := Lib.hid (show Bn W0 (w.heap.size + 1) by rw [← hW];exact KpA)
  replace HB := Lib.hid (show Below w.heap.size w W0 by rw [← hW];exact BlA)
  replace hN : N ≤ W0.heap.size := by rw [← hW];(first | omega | (simp;done) | (simp;omega))
  have hs0 : w.heap.size ≤ W0.heap.size := by rw [← hW];(first | omega | (simp;done) | (simp;omega))
  have hl_T : w.heap.size < W0.heap.size := by rw [← hW];(first | omega | (simp;done) | (simp;omega))
  have hl_R : w.heap.size + 1 < W0.heap.size := by rw [← hW];(first | omega | (simp;done) | (simp;omega))
  clear hW
  refine (xtvalid_any _ _ _ _ _ false HV.out).mono ?_
  rintro e wa ⟨rfl,hb⟩
  have hs_wa : W0.heap.size ≤ wa.heap.size := hb.size
  replace k_T_0 : wa.cell? ⟨w.heap.size,0,none⟩ = some (.int .i64 a) := (hb.cell (p := ⟨w.heap.size,0,none⟩) hl_T).trans k_T_0
  replace k_T_1 : wa.cell? ⟨w.heap.size,1,none⟩ = some (.int .i64 b) := (hb.cell (p := ⟨w.heap.size,1,none⟩) hl_T).trans k_T_1
  replace k_T_2 : wa.cell? ⟨w.heap.size,2,none⟩ = some (.int .i64 c) := (hb.cell (p := ⟨w.heap.size,2,none⟩) hl_T).trans k_T_2
  replace k_T_3 : wa.cell? ⟨w.heap.size,3,none⟩ = some (.int .i64 d) := (hb.cell (p := ⟨w.heap.size,3,none⟩) hl_T).trans k_T_3
  replace f_T : ∀ o,wa.frozen? ⟨w.heap.size,o,none⟩ = false := fun o => (hb.frozen (p := ⟨w.heap.size,o,none⟩) hl_T).trans (f_T o)
  replace HX_T := Lib.hid (HX_T.out.below hb)
  replace k_R_0 : wa.cell? ⟨w.heap.size + 1,0,none⟩ = some (.bool false) := (hb.cell (p := ⟨w.heap.size + 1,0,none⟩) hl_R).trans k_R_0
  replace k_R_1 : wa.cell? ⟨w.heap.size + 1,1,none⟩ = some (.slice none 0 0) := (hb.cell (p := ⟨w.heap.size + 1,1,none⟩) hl_R).trans k_R_1
  replace k_R_2 : wa.cell? ⟨w.heap.size + 1,2,none⟩ = some (.slice none 0 0) := (hb.cell (p := ⟨w.heap.size + 1,2,none⟩) hl_R).trans k_R_2
  replace f_R : ∀ o,wa.frozen? ⟨w.heap.size + 1,o,none⟩ = false := fun o => (hb.frozen (p := ⟨w.heap.size + 1,o,none⟩) hl_R).trans (f_R o)
  replace HX_R := Lib.hid (HX_R.out.below hb)
  replace HB := Lib.hid (HB.out.trans (hb.mono hs0))
  replace hN : N ≤ wa.heap.size := Nat.le_trans hN hb.size
  replace hs0 : w.heap.size ≤ wa.heap.size := Nat.le_trans hs0 hb.size
  replace hl_T : w.heap.size < wa.heap.size := Nat.lt_of_lt_of_le hl_T hb.size
  replace hl_R : w.heap.size + 1 < wa.heap.size := Nat.lt_of_lt_of_le hl_R hb.size
  clear hb
  go_wp2_with fail
  refine bodyPost_ret (v := .tuple #[.agg #[.bool false,.slice none 0 0,.slice none 0 0],.int .i64 3]) (by simp [results,Tryz.results7,go_sem,k_R_0,k_R_1,k_R_2]) rfl ⟨rfl,?_⟩
  all_goals exact KBA
set_option maxHeartbeats 4000000 in
theorem xfisher_ok {N : Nat} (a b c d : Nat) (w : World) (hN : N ≤ w.heap.size) (ha : a ≤ 30) (hb : b ≤ 30) (hc : c ≤ 30) (hd : d ≤ 30) (p : Rat) (hp : fishQ a b c d = p) :
    Calls Tryz.prog 7 #[.agg #[.int .i64 (a : Nat),.int .i64 (b : Nat),.int .i64 (c : Nat),.int .i64 (d : Nat)]] w (RatOk N w p) := by
  have HV := Lib.hid (show vldT a b c d = true from vldT_iff.2 ⟨by omega,by omega,by omega,by omega⟩)
  obtain ⟨r,hr⟩ : ∃ r,a + b = r := ⟨_,rfl⟩
  obtain ⟨m,hm⟩ : ∃ m,a + c = m := ⟨_,rfl⟩
  obtain ⟨t,ht⟩ : ∃ t,a + b + c + d = t := ⟨_,rfl⟩
  obtain ⟨n,hn⟩ : ∃ n,min m r + 1 = n := ⟨_,rfl⟩
  have HNN := Lib.hid hn
  have HP := Lib.hid (show bothQ (hyQ t m r) n a = p by rw [← hn,← hm,← hr,← ht];exact hp)
  have HVV := Lib.hid (show valid (hyQ t m r) n = true by rw [← hn];exact hyQ_valid t m r (by omega) (by omega) (by omega))
  have han : a < n := by omega
  have hnn : n ≤ 61 := by omega
  have e1 : (a : Int) + (b : Int) = (r : Int) := by omega
  have e2 : (r : Int) + (c : Int) + (d : Int) = (t : Int) := by omega
  have e3 : (a : Int) + (c : Int) = (m : Int) := by omega
  have t1 : t ≤ 120 := by omega
  have t2 : m ≤ t := by omega
  have t3 : r ≤ t := by omega
  have t4 : (r : Int) + (c : Int) ≤ 120 := by omega
  clear hp hr hm ht hn
  have hN0 := hN
  have HB := Lib.hid (Below.refl w.heap.size w)
  go_enter Tryz.func7,Tryz.ntmps7
  go_wp2_with fail
  refine calls_name fun W0 hW => ?_
  have hs_W0 : w.heap.size ≤ W0.heap.size := by rw [← hW];(first | omega | (simp;done) | (simp;omega))
  have k_T_0 : W0.cell? ⟨w.heap.size,0,none⟩ = some (.int .i64 (a : Nat)) := by rw [← hW];(first | (go_simp;done) | (simp;done) | (simp [go_sem];done) | (simp [go_sem];done))
  have k_T_1 : W0.cell? ⟨w.heap.size,1,none⟩ = some (.int .i64 (b : Nat)) := by rw [← hW];(first | (go_simp;done) | (simp;done) | (simp [go_sem];done) | (simp [go_sem];done))
  have k_T_2 : W0.cell? ⟨w.heap.size,2,none⟩ = some (.int .i64 (c : Nat)) := by rw [← hW];(first | (go_simp;done) | (simp;done) | (simp [go_sem];done) | (simp [go_sem];done))
  have k_T_3 : W0.cell? ⟨w.heap.size,3,none⟩ = some (.int .i64 (d : Nat)) := by rw [← hW];(first | (go_simp;done) | (simp;done) | (simp [go_sem];done) | (simp [go_sem];done))
  have f_T : ∀ o,W0.frozen? ⟨w.heap.size,o,none⟩ = false := by intro o;rw [← hW];(first | (go_simp;done) | (simp;done) | (simp [go_sem];done) | (simp [go_sem];done))
  have HX_T := Lib.hid (show Bn W0 (w.heap.size) by rw [← hW];exact KpA)
  have k_R_0 : W0.cell? ⟨w.heap.size + 1,0,none⟩ = some (.bool false) := by rw [← hW];(first | (go_simp;done) | (simp;done) | (simp [go_sem];done) | (simp [go_sem];done))
  have k_R_1 : W0.cell? ⟨w.heap.size + 1,1,none⟩ = some (.slice none 0 0) := by rw [← hW];(first | (go_simp;done) | (simp;done) | (simp [go_sem];done) | (simp [go_sem];done))
  have k_R_2 : W0.cell? ⟨w.heap.size + 1,2,none⟩ = some (.slice none 0 0) := by rw [← hW];(first | (go_simp;done) | (simp;done) | (simp [go_sem];done) | (simp [go_sem];done))
  have f_R : ∀ o,W0.frozen? ⟨w.heap.size + 1,o,none⟩ = false := by intro o;rw [← hW];(first | (go_simp;done) | (simp;done) | (simp [go_sem];done) | (simp [go_sem];done))
  have HX_R := Lib.hid (show Bn W0 (w.heap.size + 1) by rw [← hW];exact KpA)
  replace HB := Lib.hid (show Below w.heap.size w W0 by rw [← hW];exact BlA)
  replace hN : N ≤ W0.heap.size := by rw [← hW];(first | omega | (simp;done) | (simp;omega))
  have hs0 : w.heap.size ≤ W0.heap.size := by rw [← hW];(first | omega | (simp;done) | (simp;omega))
  have hl_T : w.heap.size < W0.heap.size := by rw [← hW];(first | omega | (simp;done) | (simp;omega))
  have hl_R : w.heap.size + 1 < W0.heap.size := by rw [← hW];(first | omega | (simp;done) | (simp;omega))
  clear hW
  refine (xtvalid_any _ _ _ _ _ true HV.out).mono ?_
  rintro e wa ⟨rfl,hb⟩
  have hs_wa : W0.heap.size ≤ wa.heap.size := hb.size
  replace k_T_0 : wa.cell? ⟨w.heap.size,0,none⟩ = some (.int .i64 (a : Nat)) := (hb.cell (p := ⟨w.heap.size,0,none⟩) hl_T).trans k_T_0
  replace k_T_1 : wa.cell? ⟨w.heap.size,1,none⟩ = some (.int .i64 (b : Nat)) := (hb.cell (p := ⟨w.heap.size,1,none⟩) hl_T).trans k_T_1
  replace k_T_2 : wa.cell? ⟨w.heap.size,2,none⟩ = some (.int .i64 (c : Nat)) := (hb.cell (p := ⟨w.heap.size,2,none⟩) hl_T).trans k_T_2
  replace k_T_3 : wa.cell? ⟨w.heap.size,3,none⟩ = some (.int .i64 (d : Nat)) := (hb.cell (p := ⟨w.heap.size,3,none⟩) hl_T).trans k_T_3
  replace f_T : ∀ o,wa.frozen? ⟨w.heap.size,o,none⟩ = false := fun o => (hb.frozen (p := ⟨w.heap.size,o,none⟩) hl_T).trans (f_T o)
  replace HX_T := Lib.hid (HX_T.out.below hb)
  replace k_R_0 : wa.cell? ⟨w.heap.size + 1,0,none⟩ = some (.bool false) := (hb.cell (p := ⟨w.heap.size + 1,0,none⟩) hl_R).trans k_R_0
  replace k_R_1 : wa.cell? ⟨w.heap.size + 1,1,none⟩ = some (.slice none 0 0) := (hb.cell (p := ⟨w.heap.size + 1,1,none⟩) hl_R).trans k_R_1
  replace k_R_2 : wa.cell? ⟨w.heap.size + 1,2,none⟩ = some (.slice none 0 0) := (hb.cell (p := ⟨w.heap.size + 1,2,none⟩) hl_R).trans k_R_2
  replace f_R : ∀ o,wa.frozen? ⟨w.heap.size + 1,o,none⟩ = false := fun o => (hb.frozen (p := ⟨w.heap.size + 1,o,none⟩) hl_R).trans (f_R o)
  replace HX_R := Lib.hid (HX_R.out.below hb)
  replace HB := Lib.hid (HB.out.trans (hb.mono hs0))
  replace hN : N ≤ wa.heap.size := Nat.le_trans hN hb.size
  replace hs0 : w.heap.size ≤ wa.heap.size := Nat.le_trans hs0 hb.size
  replace hl_T : w.heap.size < wa.heap.size := Nat.lt_of_lt_of_le hl_T hb.size
  replace hl_R : w.heap.size + 1 < wa.heap.size := Nat.lt_of_lt_of_le hl_R hb.size
  clear hb
  go_wp2_with fail
  refine calls_name fun W1 hW => ?_
  have HL_W1 := Lib.hid (show Below wa.heap.size wa W1 by rw [← hW];exact BlA)
  have hs_W1 : wa.heap.size ≤ W1.heap.size := by rw [← hW];(first | omega | (simp;done) | (simp;omega))
  replace k_T_0 : W1.cell? ⟨w.heap.size,0,none⟩ = some (.int .i64 (a : Nat)) := (HL_W1.out.cell (p := ⟨w.heap.size,0,none⟩) hl_T).trans k_T_0
  replace k_T_1 : W1.cell? ⟨w.heap.size,1,none⟩ = some (.int .i64 (b : Nat)) := (HL_W1.out.cell (p := ⟨w.heap.size,1,none⟩) hl_T).trans k_T_1
  replace k_T_2 : W1.cell? ⟨w.heap.size,2,none⟩ = some (.int .i64 (c : Nat)) := (HL_W1.out.cell (p := ⟨w.heap.size,2,none⟩) hl_T).trans k_T_2
  replace k_T_3 : W1.cell? ⟨w.heap.size,3,none⟩ = some (.int .i64 (d : Nat)) := (HL_W1.out.cell (p := ⟨w.heap.size,3,none⟩) hl_T).trans k_T_3
  replace f_T : ∀ o,W1.frozen? ⟨w.heap.size,o,none⟩ = false := fun o => (HL_W1.out.frozen (p := ⟨w.heap.size,o,none⟩) hl_T).trans (f_T o)
  replace HX_T := Lib.hid (show Bn W1 (w.heap.size) by rw [← hW];exact KpA)
  replace k_R_0 : W1.cell? ⟨w.heap.size + 1,0,none⟩ = some (.bool false) := (HL_W1.out.cell (p := ⟨w.heap.size + 1,0,none⟩) hl_R).trans k_R_0
  replace k_R_1 : W1.cell? ⟨w.heap.size + 1,1,none⟩ = some (.slice none 0 0) := (HL_W1.out.cell (p := ⟨w.heap.size + 1,1,none⟩) hl_R).trans k_R_1
  replace k_R_2 : W1.cell? ⟨w.heap.size + 1,2,none⟩ = some (.slice none 0 0) := (HL_W1.out.cell (p := ⟨w.heap.size + 1,2,none⟩) hl_R).trans k_R_2
  replace f_R : ∀ o,W1.frozen? ⟨w.heap.size + 1,o,none⟩ = false := fun o => (HL_W1.out.frozen (p := ⟨w.heap.size + 1,o,none⟩) hl_R).trans (f_R o)
  replace HX_R := Lib.hid (show Bn W1 (w.heap.size + 1) by rw [← hW];exact KpA)
  replace HB := Lib.hid (show Below w.heap.size w W1 by rw [← hW];exact BlA)
  replace hN : N ≤ W1.heap.size := by rw [← hW];(first | omega | (simp;done) | (simp;omega))
  replace hs0 : w.heap.size ≤ W1.heap.size := by rw [← hW];(first | omega | (simp;done) | (simp;omega))
  replace hl_T : w.heap.size < W1.heap.size := by rw [← hW];(first | omega | (simp;done) | (simp;omega))
  replace hl_R : w.heap.size + 1 < W1.heap.size := by rw [← hW];(first | omega | (simp;done) | (simp;omega))
  clear HL_W1
  clear hW
  refine (xhyper_ok (N := N) t m r n _ hN (by omega) (by omega) (by omega) HNN.out (hyQ t m r) (fun i _ => rfl)).mono ?_
  rintro e wb ⟨ao,co,rfl,hl,hb⟩
  have hs_wb : W1.heap.size ≤ wb.heap.size := hb.size
  replace k_T_0 : wb.cell? ⟨w.heap.size,0,none⟩ = some (.int .i64 (a : Nat)) := (hb.cell (p := ⟨w.heap.size,0,none⟩) hl_T).trans k_T_0
  replace k_T_1 : wb.cell? ⟨w.heap.size,1,none⟩ = some (.int .i64 (b : Nat)) := (hb.cell (p := ⟨w.heap.size,1,none⟩) hl_T).trans k_T_1
  replace k_T_2 : wb.cell? ⟨w.heap.size,2,none⟩ = some (.int .i64 (c : Nat)) := (hb.cell (p := ⟨w.heap.size,2,none⟩) hl_T).trans k_T_2
  replace k_T_3 : wb.cell? ⟨w.heap.size,3,none⟩ = some (.int .i64 (d : Nat)) := (hb.cell (p := ⟨w.heap.size,3,none⟩) hl_T).trans k_T_3
  replace f_T : ∀ o,wb.frozen? ⟨w.heap.size,o,none⟩ = false := fun o => (hb.frozen (p := ⟨w.heap.size,o,none⟩) hl_T).trans (f_T o)
  replace HX_T := Lib.hid (HX_T.out.below hb)
  replace k_R_0 : wb.cell? ⟨w.heap.size + 1,0,none⟩ = some (.bool false) := (hb.cell (p := ⟨w.heap.size + 1,0,none⟩) hl_R).trans k_R_0
  replace k_R_1 : wb.cell? ⟨w.heap.size + 1,1,none⟩ = some (.slice none 0 0) := (hb.cell (p := ⟨w.heap.size + 1,1,none⟩) hl_R).trans k_R_1
  replace k_R_2 : wb.cell? ⟨w.heap.size + 1,2,none⟩ = some (.slice none 0 0) := (hb.cell (p := ⟨w.heap.size + 1,2,none⟩) hl_R).trans k_R_2
  replace f_R : ∀ o,wb.frozen? ⟨w.heap.size + 1,o,none⟩ = false := fun o => (hb.frozen (p := ⟨w.heap.size + 1,o,none⟩) hl_R).trans (f_R o)
  replace HX_R := Lib.hid (HX_R.out.below hb)
  replace HB := Lib.hid (HB.out.trans (hb.mono hs0))
  replace hN : N ≤ wb.heap.size := Nat.le_trans hN hb.size
  replace hs0 : w.heap.size ≤ wb.heap.size := Nat.le_trans hs0 hb.size
  replace hl_T : w.heap.size < wb.heap.size := Nat.lt_of_lt_of_le hl_T hb.size
  replace hl_R : w.heap.size + 1 < wb.heap.size := Nat.lt_of_lt_of_le hl_R hb.size
  clear hb
  have HD := Lib.hid hl
  clear hl
  go_wp2_with fail
  refine (xBoth_in (N := N) _ n _ (hyQ t m r) 14 _ hN ((HD.out).rs 14 (fun i hi => hyQ_len t m r i (by omega) (by omega))) (by omega) HVV.out a (by omega) p HP.out).mono ?_
  rintro e wc ⟨ru,cu,ru2,cu2,rfl,hn,hn',hb⟩
  have hs_wc : wb.heap.size ≤ wc.heap.size := hb.size
  replace k_T_0 : wc.cell? ⟨w.heap.size,0,none⟩ = some (.int .i64 (a : Nat)) := (hb.cell (p := ⟨w.heap.size,0,none⟩) hl_T).trans k_T_0
  replace k_T_1 : wc.cell? ⟨w.heap.size,1,none⟩ = some (.int .i64 (b : Nat)) := (hb.cell (p := ⟨w.heap.size,1,none⟩) hl_T).trans k_T_1
  replace k_T_2 : wc.cell? ⟨w.heap.size,2,none⟩ = some (.int .i64 (c : Nat)) := (hb.cell (p := ⟨w.heap.size,2,none⟩) hl_T).trans k_T_2
  replace k_T_3 : wc.cell? ⟨w.heap.size,3,none⟩ = some (.int .i64 (d : Nat)) := (hb.cell (p := ⟨w.heap.size,3,none⟩) hl_T).trans k_T_3
  replace f_T : ∀ o,wc.frozen? ⟨w.heap.size,o,none⟩ = false := fun o => (hb.frozen (p := ⟨w.heap.size,o,none⟩) hl_T).trans (f_T o)
  replace HX_T := Lib.hid (HX_T.out.below hb)
  replace k_R_0 : wc.cell? ⟨w.heap.size + 1,0,none⟩ = some (.bool false) := (hb.cell (p := ⟨w.heap.size + 1,0,none⟩) hl_R).trans k_R_0
  replace k_R_1 : wc.cell? ⟨w.heap.size + 1,1,none⟩ = some (.slice none 0 0) := (hb.cell (p := ⟨w.heap.size + 1,1,none⟩) hl_R).trans k_R_1
  replace k_R_2 : wc.cell? ⟨w.heap.size + 1,2,none⟩ = some (.slice none 0 0) := (hb.cell (p := ⟨w.heap.size + 1,2,none⟩) hl_R).trans k_R_2
  replace f_R : ∀ o,wc.frozen? ⟨w.heap.size + 1,o,none⟩ = false := fun o => (hb.frozen (p := ⟨w.heap.size + 1,o,none⟩) hl_R).trans (f_R o)
  replace HX_R := Lib.hid (HX_R.out.below hb)
  replace HB := Lib.hid (HB.out.trans (hb.mono hs0))
  replace hN : N ≤ wc.heap.size := Nat.le_trans hN hb.size
  replace hs0 : w.heap.size ≤ wc.heap.size := Nat.le_trans hs0 hb.size
  replace hl_T : w.heap.size < wc.heap.size := Nat.lt_of_lt_of_le hl_T hb.size
  replace hl_R : w.heap.size + 1 < wc.heap.size := Nat.lt_of_lt_of_le hl_R hb.size
  replace HD := Lib.hid (HD.out.below hb)
  clear hb
  have HP1 := Lib.hid hn
  clear hn
  have HQ1 := Lib.hid hn'
  clear hn'
  go_wp2_with fail
  refine bodyPost_ret (v := .tuple #[.agg #[.bool (decide ((p).num < 0)),.slice ru (nlen (p).num.natAbs) cu,.slice ru2 (nlen (p).den) cu2],.int .i64 0]) (by simp [results,Tryz.results7,go_sem,k_R_0,k_R_1,k_R_2]) rfl ⟨_,_,_,_,rfl,HP1.out.keep ?_,HQ1.out.keep ?_,?_⟩
  all_goals exact KBA
set_option maxHeartbeats 2000000 in
theorem xsign_bad (x y : Int) (w : World) (hbad : x < 0 ∨ 60 < x ∨ y < 0 ∨ 60 < y) :
    Calls Tryz.prog 12 #[.int .i64 x,.int .i64 y] w (RatErr w 3) := by
  by_cases x0 : x < 0
  · clear hbad
    go_enter Tryz.func12,Tryz.ntmps12
    go_wp2_with fail
    refine bodyPost_ret (v := .tuple #[.agg #[.bool false,.slice none 0 0,.slice none 0 0],.int .i64 3]) (by simp [results,Tryz.results12,go_sem]) rfl ⟨rfl,?_⟩
    exact BlA
  by_cases x1 : 60 < x
  · clear hbad
    go_enter Tryz.func12,Tryz.ntmps12
    go_wp2_with fail
    refine bodyPost_ret (v := .tuple #[.agg #[.bool false,.slice none 0 0,.slice none 0 0],.int .i64 3]) (by simp [results,Tryz.results12,go_sem]) rfl ⟨rfl,?_⟩
    exact BlA
  by_cases y0 : y < 0
  · clear hbad
    go_enter Tryz.func12,Tryz.ntmps12
    go_wp2_with fail
    refine bodyPost_ret (v := .tuple #[.agg #[.bool false,.slice none 0 0,.slice none 0 0],.int .i64 3]) (by simp [results,Tryz.results12,go_sem]) rfl ⟨rfl,?_⟩
    exact BlA
  have y1 : 60 < y := by omega
  clear hbad
  go_enter Tryz.func12,Tryz.ntmps12
  go_wp2_with fail
  refine bodyPost_ret (v := .tuple #[.agg #[.bool false,.slice none 0 0,.slice none 0 0],.int .i64 3]) (by simp [results,Tryz.results12,go_sem]) rfl ⟨rfl,?_⟩
  exact BlA
set_option maxHeartbeats 4000000 in
theorem xsign_ok {N : Nat} (x y : Nat) (w : World) (hN : N ≤ w.heap.size) (hx : x ≤ 60) (hy : y ≤ 60) (p : Rat) (hp : signQ (x + y) x = p) :
    Calls Tryz.prog 12 #[.int .i64 (x : Nat),.int .i64 (y : Nat)] w (RatOk N w p) := by
  obtain ⟨n,hn⟩ : ∃ n,x + y = n := ⟨_,rfl⟩
  rw [hn] at hp
  have HP := Lib.hid (show bothQ (siQ n) (n + 1) x = p from hp)
  have HVV := Lib.hid (siQ_valid n (by omega))
  obtain ⟨h,hh⟩ : ∃ h : Rat,((1 : Int) : Rat) / ((2 : Int) : Rat) = h := ⟨_,rfl⟩
  have eh : h = 1 / 2 := by rw [← hh];rfl
  have HH := Lib.hid hh
  have HHS := Lib.hid (show rsz h ≤ 1 by rw [eh];exact rsz_small _ (by rw [half_num.1];decide) (by rw [half_num.2];decide))
  have HHP := Lib.hid (show prb h = true by rw [eh];decide +kernel)
  have HHQ := Lib.hid (fun i (_ : i < n + 1) => half_bin h hh n i)
  have e1 : (x : Int) + (y : Int) = (n : Int) := by omega
  have n1 : n ≤ 120 := by omega
  have x1 : x < n + 1 := by omega
  have x2 : ¬ 60 < (x : Int) := by omega
  have y2 : ¬ 60 < (y : Int) := by omega
  have HH2 := Lib.hid (show mkRat (zI false 1) 2 = h by rw [eh];decide +kernel)
  clear hp hn hh eh
  have hN0 := hN
  have HB := Lib.hid (Below.refl w.heap.size w)
  go_enter Tryz.func12,Tryz.ntmps12
  go_wp2_with fail
  refine calls_name fun W0 hW => ?_
  have hN_W0 : N ≤ W0.heap.size := by rw [← hW];(first | omega | (simp;done) | (simp;omega))
  have hs_W0 : w.heap.size ≤ W0.heap.size := by rw [← hW];(first | omega | (simp;done) | (simp;omega))
  have hs0_W0 : w.heap.size ≤ W0.heap.size := by rw [← hW];(first | omega | (simp;done) | (simp;omega))
  have hl_R_W0 : w.heap.size < W0.heap.size := by rw [← hW];(first | omega | (simp;done) | (simp;omega))
  have k_R_0_W0 : W0.cell? ⟨w.heap.size,0,none⟩ = some (.bool false) := by rw [← hW];(first | (go_simp;done) | (simp;done) | (simp [go_sem];done) | (simp [go_sem];done))
  have k_R_1_W0 : W0.cell? ⟨w.heap.size,1,none⟩ = some (.slice none 0 0) := by rw [← hW];(first | (go_simp;done) | (simp;done) | (simp [go_sem];done) | (simp [go_sem];done))
  have k_R_2_W0 : W0.cell? ⟨w.heap.size,2,none⟩ = some (.slice none 0 0) := by rw [← hW];(first | (go_simp;done) | (simp;done) | (simp [go_sem];done) | (simp [go_sem];done))
  have f_R_W0 : ∀ o,W0.frozen? ⟨w.heap.size,o,none⟩ = false := by intro o;rw [← hW];(first | (go_simp;done) | (simp;done) | (simp [go_sem];done) | (simp [go_sem];done))
  have HX_R_W0 := Lib.hid (show Bn W0 (w.heap.size) by rw [← hW];exact KpA)
  have HB_W0 := Lib.hid (show Below w.heap.size w W0 by rw [← hW];exact BlA)
  have HR2 := Lib.hid (show Rt N W0 false (some ⟨w.heap.size + 1,0,none⟩) 1 1 (some ⟨w.heap.size + 1 + 1,0,none⟩) 1 1 h 1 by
    rw [← hW]
    exact ⟨Nat.le_refl _,Nat.le_refl _,Nat.le_refl _,1,2,(Nt.lit (w.alloc (.cells #[.bool false,.slice none 0 0,.slice none 0 0] 29)) 1 (w.heap.size + 1) (by simp) (by decide)).below (bel1 _ _),Nt.lit _ 2 (w.heap.size + 1 + 1) (by simp) (by decide),HH2.out⟩)
  clear hW
  clear HB hN
  have hN := hN_W0
  have HB := HB_W0
  have hs0 := hs0_W0
  have hl_R := hl_R_W0
  have f_R := f_R_W0
  have HX_R := HX_R_W0
  have k_R_0 := k_R_0_W0
  have k_R_1 := k_R_1_W0
  have k_R_2 := k_R_2_W0
  clear hN_W0 HB_W0 hs0_W0 hl_R_W0 f_R_W0 HX_R_W0 k_R_0_W0 k_R_1_W0 k_R_2_W0
  refine (xbinomial_ok (N := N) n _ _ _ _ _ _ _ 1 h _ hN HR2.out (by omega) HHP.out (by omega) (siQ n) HHQ.out).mono ?_
  rintro e wb ⟨ao,co,rfl,hl,hb⟩
  have hs_wb : W0.heap.size ≤ wb.heap.size := hb.size
  replace k_R_0 : wb.cell? ⟨w.heap.size,0,none⟩ = some (.bool false) := (hb.cell (p := ⟨w.heap.size,0,none⟩) hl_R).trans k_R_0
  replace k_R_1 : wb.cell? ⟨w.heap.size,1,none⟩ = some (.slice none 0 0) := (hb.cell (p := ⟨w.heap.size,1,none⟩) hl_R).trans k_R_1
  replace k_R_2 : wb.cell? ⟨w.heap.size,2,none⟩ = some (.slice none 0 0) := (hb.cell (p := ⟨w.heap.size,2,none⟩) hl_R).trans k_R_2
  replace f_R : ∀ o,wb.frozen? ⟨w.heap.size,o,none⟩ = false := fun o => (hb.frozen (p := ⟨w.heap.size,o,none⟩) hl_R).trans (f_R o)
  replace HX_R := Lib.hid (HX_R.out.below hb)
  replace HR2 := Lib.hid (HR2.out.below hb)
  replace HB := Lib.hid (HB.out.trans (hb.mono hs0))
  replace hN : N ≤ wb.heap.size := Nat.le_trans hN hb.size
  replace hs0 : w.heap.size ≤ wb.heap.size := Nat.le_trans hs0 hb.size
  replace hl_R : w.heap.size < wb.heap.size := Nat.lt_of_lt_of_le hl_R hb.size
  clear hb
  have HD := Lib.hid hl
  clear hl
  clear HR2
  go_wp2_with fail
  refine (xBoth_in (N := N) _ (n + 1) _ (siQ n) 122 _ hN ((HD.out).rs 122 (fun i hi => siQ_len n i (by omega))) (by omega) HVV.out x (by omega) p HP.out).mono ?_
  rintro e wc ⟨ru,cu,ru2,cu2,rfl,hn,hn',hb⟩
  have hs_wc : wb.heap.size ≤ wc.heap.size := hb.size
  replace k_R_0 : wc.cell? ⟨w.heap.size,0,none⟩ = some (.bool false) := (hb.cell (p := ⟨w.heap.size,0,none⟩) hl_R).trans k_R_0
  replace k_R_1 : wc.cell? ⟨w.heap.size,1,none⟩ = some (.slice none 0 0) := (hb.cell (p := ⟨w.heap.size,1,none⟩) hl_R).trans k_R_1
  replace k_R_2 : wc.cell? ⟨w.heap.size,2,none⟩ = some (.slice none 0 0) := (hb.cell (p := ⟨w.heap.size,2,none⟩) hl_R).trans k_R_2
  replace f_R : ∀ o,wc.frozen? ⟨w.heap.size,o,none⟩ = false := fun o => (hb.frozen (p := ⟨w.heap.size,o,none⟩) hl_R).trans (f_R o)
  replace HX_R := Lib.hid (HX_R.out.below hb)
  replace HB := Lib.hid (HB.out.trans (hb.mono hs0))
  replace hN : N ≤ wc.heap.size := Nat.le_trans hN hb.size
  replace hs0 : w.heap.size ≤ wc.heap.size := Nat.le_trans hs0 hb.size
  replace hl_R : w.heap.size < wc.heap.size := Nat.lt_of_lt_of_le hl_R hb.size
  replace HD := Lib.hid (HD.out.below hb)
  clear hb
  have HP1 := Lib.hid hn
  clear hn
  have HQ1 := Lib.hid hn'
  clear hn'
  go_wp2_with fail
  refine bodyPost_ret (v := .tuple #[.agg #[.bool (decide ((p).num < 0)),.slice ru (nlen (p).num.natAbs) cu,.slice ru2 (nlen (p).den) cu2],.int .i64 0]) (by simp [results,Tryz.results12,go_sem,k_R_0,k_R_1,k_R_2]) rfl ⟨_,_,_,_,rfl,HP1.out.keep ?_,HQ1.out.keep ?_,?_⟩
  all_goals exact KBA
end Go.Proofs.YtnillajhhimeiaaGreatDoor
