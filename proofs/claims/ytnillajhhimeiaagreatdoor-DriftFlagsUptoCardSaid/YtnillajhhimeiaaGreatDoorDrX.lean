import Derived.Test.YtnillajhhimeiaaGreatDoorRfG
import Derived.Test.YtnillajhhimeiaaGreatDoorJoI
namespace Go.Proofs.YtnillajhhimeiaaGreatDoor
open Go.RowKit
def cntB (x : Int) : Bool := decide (0 ≤ x ∧ x ≤ 30)
theorem cntB_vld (a b c d : Int) : vldT a b c d = (cntB a && cntB b && cntB c && cntB d) := by
  cases e : vldT a b c d
  · cases e1 : (cntB a && cntB b && cntB c && cntB d)
    · rfl
    · simp only [Bool.and_eq_true, cntB, decide_eq_true_eq] at e1
      rw [vldT_iff.2 ⟨e1.1.1.1, e1.1.1.2, e1.1.2, e1.2⟩] at e; cases e
  · obtain ⟨h0, h1, h2, h3⟩ := vldT_iff.1 e
    unfold cntB
    rw [decide_eq_true h0, decide_eq_true h1, decide_eq_true h2, decide_eq_true h3]; rfl
set_option maxHeartbeats 1000000 in
theorem xcount_is (x : Int) (w : World) (v : Bool) (hv : cntB x = v) : Calls Tryz.prog 26 #[.int .i64 x] w fun e w' => e = .returned (.bool v) ∧ Below w.heap.size w w' := by
  by_cases h0 : x < 0
  · obtain rfl : false = v := by rw [← hv]; exact (decide_eq_false (by omega)).symm
    have d0 : decide (0 ≤ x) = false := decide_eq_false (by omega)
    clear hv
    go_enter Tryz.func26, Tryz.ntmps26
    go_wp2_with fail
    go_ret
    exact ⟨rfl, Below.refl _ _⟩
  · have d0 : decide (0 ≤ x) = true := decide_eq_true (by omega)
    have d1 : decide (x ≤ 30) = v := by rw [← hv]; unfold cntB; exact decide_eq_decide.2 ⟨fun h => ⟨by omega, h⟩, fun h => h.2⟩
    clear hv
    go_enter Tryz.func26, Tryz.ntmps26
    go_wp2_with fail
    go_ret
    exact ⟨rfl, Below.refl _ _⟩
set_option maxHeartbeats 2000000 in
theorem xtvalid_any (a b c d : Int) (w : World) (v : Bool) (hv : vldT a b c d = v) :
    Calls Tryz.prog 9 #[.agg #[.int .i64 a, .int .i64 b, .int .i64 c, .int .i64 d]] w fun e w' => e = .returned (.bool v) ∧ Below w.heap.size w w' := by
  have HB := Lib.hid (Below.refl w.heap.size w)
  go_enter Tryz.func9, Tryz.ntmps9
  go_wp2_with fail
  refine calls_name fun W0 hW => ?_
  have hs_W0 : w.heap.size ≤ W0.heap.size := by rw [← hW]; (first | omega | (simp; done) | (simp; omega))
  have k_T_0 : W0.cell? ⟨w.heap.size, 0, none⟩ = some (.int .i64 a) := by rw [← hW]; (first | (go_simp; done) | (simp; done) | (simp [go_sem]; done) | (simp [go_sem]; done))
  have k_T_1 : W0.cell? ⟨w.heap.size, 1, none⟩ = some (.int .i64 b) := by rw [← hW]; (first | (go_simp; done) | (simp; done) | (simp [go_sem]; done) | (simp [go_sem]; done))
  have k_T_2 : W0.cell? ⟨w.heap.size, 2, none⟩ = some (.int .i64 c) := by rw [← hW]; (first | (go_simp; done) | (simp; done) | (simp [go_sem]; done) | (simp [go_sem]; done))
  have k_T_3 : W0.cell? ⟨w.heap.size, 3, none⟩ = some (.int .i64 d) := by rw [← hW]; (first | (go_simp; done) | (simp; done) | (simp [go_sem]; done) | (simp [go_sem]; done))
  have f_T : ∀ o, W0.frozen? ⟨w.heap.size, o, none⟩ = false := by intro o; rw [← hW]; (first | (go_simp; done) | (simp; done) | (simp [go_sem]; done) | (simp [go_sem]; done))
  have HX_T := Lib.hid (show Bn W0 (w.heap.size) by rw [← hW]; exact KpA)
  replace HB := Lib.hid (show Below w.heap.size w W0 by rw [← hW]; exact BlA)
  have hs0 : w.heap.size ≤ W0.heap.size := by rw [← hW]; (first | omega | (simp; done) | (simp; omega))
  have hl_T : w.heap.size < W0.heap.size := by rw [← hW]; (first | omega | (simp; done) | (simp; omega))
  clear hW
  have HV := hv
  rw [cntB_vld] at HV
  clear hv
  obtain ⟨va, hva⟩ : ∃ v, cntB a = v := ⟨_, rfl⟩
  have Ha := Lib.hid hva
  rw [hva] at HV
  clear hva
  cases va
  · refine (xcount_is a _ false Ha.out).mono ?_
    rintro e w0 ⟨rfl, hb⟩
    have hs_w0 : W0.heap.size ≤ w0.heap.size := hb.size
    replace k_T_0 : w0.cell? ⟨w.heap.size, 0, none⟩ = some (.int .i64 a) := (hb.cell (p := ⟨w.heap.size, 0, none⟩) hl_T).trans k_T_0
    replace k_T_1 : w0.cell? ⟨w.heap.size, 1, none⟩ = some (.int .i64 b) := (hb.cell (p := ⟨w.heap.size, 1, none⟩) hl_T).trans k_T_1
    replace k_T_2 : w0.cell? ⟨w.heap.size, 2, none⟩ = some (.int .i64 c) := (hb.cell (p := ⟨w.heap.size, 2, none⟩) hl_T).trans k_T_2
    replace k_T_3 : w0.cell? ⟨w.heap.size, 3, none⟩ = some (.int .i64 d) := (hb.cell (p := ⟨w.heap.size, 3, none⟩) hl_T).trans k_T_3
    replace f_T : ∀ o, w0.frozen? ⟨w.heap.size, o, none⟩ = false := fun o => (hb.frozen (p := ⟨w.heap.size, o, none⟩) hl_T).trans (f_T o)
    replace HX_T := Lib.hid (HX_T.out.below hb)
    replace HB := Lib.hid (HB.out.trans (hb.mono hs0))
    replace hs0 : w.heap.size ≤ w0.heap.size := Nat.le_trans hs0 hb.size
    replace hl_T : w.heap.size < w0.heap.size := Nat.lt_of_lt_of_le hl_T hb.size
    clear hb
    go_wp2_with fail
    go_ret
    exact ⟨by rw [← HV]; simp, HB.out⟩
  · refine (xcount_is a _ true Ha.out).mono ?_
    rintro e w0 ⟨rfl, hb⟩
    have hs_w0 : W0.heap.size ≤ w0.heap.size := hb.size
    replace k_T_0 : w0.cell? ⟨w.heap.size, 0, none⟩ = some (.int .i64 a) := (hb.cell (p := ⟨w.heap.size, 0, none⟩) hl_T).trans k_T_0
    replace k_T_1 : w0.cell? ⟨w.heap.size, 1, none⟩ = some (.int .i64 b) := (hb.cell (p := ⟨w.heap.size, 1, none⟩) hl_T).trans k_T_1
    replace k_T_2 : w0.cell? ⟨w.heap.size, 2, none⟩ = some (.int .i64 c) := (hb.cell (p := ⟨w.heap.size, 2, none⟩) hl_T).trans k_T_2
    replace k_T_3 : w0.cell? ⟨w.heap.size, 3, none⟩ = some (.int .i64 d) := (hb.cell (p := ⟨w.heap.size, 3, none⟩) hl_T).trans k_T_3
    replace f_T : ∀ o, w0.frozen? ⟨w.heap.size, o, none⟩ = false := fun o => (hb.frozen (p := ⟨w.heap.size, o, none⟩) hl_T).trans (f_T o)
    replace HX_T := Lib.hid (HX_T.out.below hb)
    replace HB := Lib.hid (HB.out.trans (hb.mono hs0))
    replace hs0 : w.heap.size ≤ w0.heap.size := Nat.le_trans hs0 hb.size
    replace hl_T : w.heap.size < w0.heap.size := Nat.lt_of_lt_of_le hl_T hb.size
    clear hb
    go_wp2_with fail
    refine calls_name fun V0 hW => ?_
    have HL_V0 := Lib.hid (show Below w0.heap.size w0 V0 by rw [← hW]; exact BlA)
    have hs_V0 : w0.heap.size ≤ V0.heap.size := by rw [← hW]; (first | omega | (simp; done) | (simp; omega))
    replace k_T_0 : V0.cell? ⟨w.heap.size, 0, none⟩ = some (.int .i64 a) := (HL_V0.out.cell (p := ⟨w.heap.size, 0, none⟩) hl_T).trans k_T_0
    replace k_T_1 : V0.cell? ⟨w.heap.size, 1, none⟩ = some (.int .i64 b) := (HL_V0.out.cell (p := ⟨w.heap.size, 1, none⟩) hl_T).trans k_T_1
    replace k_T_2 : V0.cell? ⟨w.heap.size, 2, none⟩ = some (.int .i64 c) := (HL_V0.out.cell (p := ⟨w.heap.size, 2, none⟩) hl_T).trans k_T_2
    replace k_T_3 : V0.cell? ⟨w.heap.size, 3, none⟩ = some (.int .i64 d) := (HL_V0.out.cell (p := ⟨w.heap.size, 3, none⟩) hl_T).trans k_T_3
    replace f_T : ∀ o, V0.frozen? ⟨w.heap.size, o, none⟩ = false := fun o => (HL_V0.out.frozen (p := ⟨w.heap.size, o, none⟩) hl_T).trans (f_T o)
    replace HX_T := Lib.hid (show Bn V0 (w.heap.size) by rw [← hW]; exact KpA)
    replace HB := Lib.hid (show Below w.heap.size w V0 by rw [← hW]; exact BlA)
    replace hs0 : w.heap.size ≤ V0.heap.size := by rw [← hW]; (first | omega | (simp; done) | (simp; omega))
    replace hl_T : w.heap.size < V0.heap.size := by rw [← hW]; (first | omega | (simp; done) | (simp; omega))
    clear HL_V0
    clear hW
    obtain ⟨vb, hvb⟩ : ∃ v, cntB b = v := ⟨_, rfl⟩
    have Hb := Lib.hid hvb
    rw [hvb] at HV
    clear hvb
    cases vb
    · refine (xcount_is b _ false Hb.out).mono ?_
      rintro e w1 ⟨rfl, hb⟩
      have hs_w1 : V0.heap.size ≤ w1.heap.size := hb.size
      replace k_T_0 : w1.cell? ⟨w.heap.size, 0, none⟩ = some (.int .i64 a) := (hb.cell (p := ⟨w.heap.size, 0, none⟩) hl_T).trans k_T_0
      replace k_T_1 : w1.cell? ⟨w.heap.size, 1, none⟩ = some (.int .i64 b) := (hb.cell (p := ⟨w.heap.size, 1, none⟩) hl_T).trans k_T_1
      replace k_T_2 : w1.cell? ⟨w.heap.size, 2, none⟩ = some (.int .i64 c) := (hb.cell (p := ⟨w.heap.size, 2, none⟩) hl_T).trans k_T_2
      replace k_T_3 : w1.cell? ⟨w.heap.size, 3, none⟩ = some (.int .i64 d) := (hb.cell (p := ⟨w.heap.size, 3, none⟩) hl_T).trans k_T_3
      replace f_T : ∀ o, w1.frozen? ⟨w.heap.size, o, none⟩ = false := fun o => (hb.frozen (p := ⟨w.heap.size, o, none⟩) hl_T).trans (f_T o)
      replace HX_T := Lib.hid (HX_T.out.below hb)
      replace HB := Lib.hid (HB.out.trans (hb.mono hs0))
      replace hs0 : w.heap.size ≤ w1.heap.size := Nat.le_trans hs0 hb.size
      replace hl_T : w.heap.size < w1.heap.size := Nat.lt_of_lt_of_le hl_T hb.size
      clear hb
      go_wp2_with fail
      go_ret
      exact ⟨by rw [← HV]; simp, HB.out⟩
    · refine (xcount_is b _ true Hb.out).mono ?_
      rintro e w1 ⟨rfl, hb⟩
      have hs_w1 : V0.heap.size ≤ w1.heap.size := hb.size
      replace k_T_0 : w1.cell? ⟨w.heap.size, 0, none⟩ = some (.int .i64 a) := (hb.cell (p := ⟨w.heap.size, 0, none⟩) hl_T).trans k_T_0
      replace k_T_1 : w1.cell? ⟨w.heap.size, 1, none⟩ = some (.int .i64 b) := (hb.cell (p := ⟨w.heap.size, 1, none⟩) hl_T).trans k_T_1
      replace k_T_2 : w1.cell? ⟨w.heap.size, 2, none⟩ = some (.int .i64 c) := (hb.cell (p := ⟨w.heap.size, 2, none⟩) hl_T).trans k_T_2
      replace k_T_3 : w1.cell? ⟨w.heap.size, 3, none⟩ = some (.int .i64 d) := (hb.cell (p := ⟨w.heap.size, 3, none⟩) hl_T).trans k_T_3
      replace f_T : ∀ o, w1.frozen? ⟨w.heap.size, o, none⟩ = false := fun o => (hb.frozen (p := ⟨w.heap.size, o, none⟩) hl_T).trans (f_T o)
      replace HX_T := Lib.hid (HX_T.out.below hb)
      replace HB := Lib.hid (HB.out.trans (hb.mono hs0))
      replace hs0 : w.heap.size ≤ w1.heap.size := Nat.le_trans hs0 hb.size
      replace hl_T : w.heap.size < w1.heap.size := Nat.lt_of_lt_of_le hl_T hb.size
      clear hb
      go_wp2_with fail
      refine calls_name fun V1 hW => ?_
      have HL_V1 := Lib.hid (show Below w1.heap.size w1 V1 by rw [← hW]; exact BlA)
      have hs_V1 : w1.heap.size ≤ V1.heap.size := by rw [← hW]; (first | omega | (simp; done) | (simp; omega))
      replace k_T_0 : V1.cell? ⟨w.heap.size, 0, none⟩ = some (.int .i64 a) := (HL_V1.out.cell (p := ⟨w.heap.size, 0, none⟩) hl_T).trans k_T_0
      replace k_T_1 : V1.cell? ⟨w.heap.size, 1, none⟩ = some (.int .i64 b) := (HL_V1.out.cell (p := ⟨w.heap.size, 1, none⟩) hl_T).trans k_T_1
      replace k_T_2 : V1.cell? ⟨w.heap.size, 2, none⟩ = some (.int .i64 c) := (HL_V1.out.cell (p := ⟨w.heap.size, 2, none⟩) hl_T).trans k_T_2
      replace k_T_3 : V1.cell? ⟨w.heap.size, 3, none⟩ = some (.int .i64 d) := (HL_V1.out.cell (p := ⟨w.heap.size, 3, none⟩) hl_T).trans k_T_3
      replace f_T : ∀ o, V1.frozen? ⟨w.heap.size, o, none⟩ = false := fun o => (HL_V1.out.frozen (p := ⟨w.heap.size, o, none⟩) hl_T).trans (f_T o)
      replace HX_T := Lib.hid (show Bn V1 (w.heap.size) by rw [← hW]; exact KpA)
      replace HB := Lib.hid (show Below w.heap.size w V1 by rw [← hW]; exact BlA)
      replace hs0 : w.heap.size ≤ V1.heap.size := by rw [← hW]; (first | omega | (simp; done) | (simp; omega))
      replace hl_T : w.heap.size < V1.heap.size := by rw [← hW]; (first | omega | (simp; done) | (simp; omega))
      clear HL_V1
      clear hW
      obtain ⟨vc, hvc⟩ : ∃ v, cntB c = v := ⟨_, rfl⟩
      have Hc := Lib.hid hvc
      rw [hvc] at HV
      clear hvc
      cases vc
      · refine (xcount_is c _ false Hc.out).mono ?_
        rintro e w2 ⟨rfl, hb⟩
        have hs_w2 : V1.heap.size ≤ w2.heap.size := hb.size
        replace k_T_0 : w2.cell? ⟨w.heap.size, 0, none⟩ = some (.int .i64 a) := (hb.cell (p := ⟨w.heap.size, 0, none⟩) hl_T).trans k_T_0
        replace k_T_1 : w2.cell? ⟨w.heap.size, 1, none⟩ = some (.int .i64 b) := (hb.cell (p := ⟨w.heap.size, 1, none⟩) hl_T).trans k_T_1
        replace k_T_2 : w2.cell? ⟨w.heap.size, 2, none⟩ = some (.int .i64 c) := (hb.cell (p := ⟨w.heap.size, 2, none⟩) hl_T).trans k_T_2
        replace k_T_3 : w2.cell? ⟨w.heap.size, 3, none⟩ = some (.int .i64 d) := (hb.cell (p := ⟨w.heap.size, 3, none⟩) hl_T).trans k_T_3
        replace f_T : ∀ o, w2.frozen? ⟨w.heap.size, o, none⟩ = false := fun o => (hb.frozen (p := ⟨w.heap.size, o, none⟩) hl_T).trans (f_T o)
        replace HX_T := Lib.hid (HX_T.out.below hb)
        replace HB := Lib.hid (HB.out.trans (hb.mono hs0))
        replace hs0 : w.heap.size ≤ w2.heap.size := Nat.le_trans hs0 hb.size
        replace hl_T : w.heap.size < w2.heap.size := Nat.lt_of_lt_of_le hl_T hb.size
        clear hb
        go_wp2_with fail
        go_ret
        exact ⟨by rw [← HV]; simp, HB.out⟩
      · refine (xcount_is c _ true Hc.out).mono ?_
        rintro e w2 ⟨rfl, hb⟩
        have hs_w2 : V1.heap.size ≤ w2.heap.size := hb.size
        replace k_T_0 : w2.cell? ⟨w.heap.size, 0, none⟩ = some (.int .i64 a) := (hb.cell (p := ⟨w.heap.size, 0, none⟩) hl_T).trans k_T_0
        replace k_T_1 : w2.cell? ⟨w.heap.size, 1, none⟩ = some (.int .i64 b) := (hb.cell (p := ⟨w.heap.size, 1, none⟩) hl_T).trans k_T_1
        replace k_T_2 : w2.cell? ⟨w.heap.size, 2, none⟩ = some (.int .i64 c) := (hb.cell (p := ⟨w.heap.size, 2, none⟩) hl_T).trans k_T_2
        replace k_T_3 : w2.cell? ⟨w.heap.size, 3, none⟩ = some (.int .i64 d) := (hb.cell (p := ⟨w.heap.size, 3, none⟩) hl_T).trans k_T_3
        replace f_T : ∀ o, w2.frozen? ⟨w.heap.size, o, none⟩ = false := fun o => (hb.frozen (p := ⟨w.heap.size, o, none⟩) hl_T).trans (f_T o)
        replace HX_T := Lib.hid (HX_T.out.below hb)
        replace HB := Lib.hid (HB.out.trans (hb.mono hs0))
        replace hs0 : w.heap.size ≤ w2.heap.size := Nat.le_trans hs0 hb.size
        replace hl_T : w.heap.size < w2.heap.size := Nat.lt_of_lt_of_le hl_T hb.size
        clear hb
        go_wp2_with fail
        refine calls_name fun V2 hW => ?_
        have HL_V2 := Lib.hid (show Below w2.heap.size w2 V2 by rw [← hW]; exact BlA)
        have hs_V2 : w2.heap.size ≤ V2.heap.size := by rw [← hW]; (first | omega | (simp; done) | (simp; omega))
        replace k_T_0 : V2.cell? ⟨w.heap.size, 0, none⟩ = some (.int .i64 a) := (HL_V2.out.cell (p := ⟨w.heap.size, 0, none⟩) hl_T).trans k_T_0
        replace k_T_1 : V2.cell? ⟨w.heap.size, 1, none⟩ = some (.int .i64 b) := (HL_V2.out.cell (p := ⟨w.heap.size, 1, none⟩) hl_T).trans k_T_1
        replace k_T_2 : V2.cell? ⟨w.heap.size, 2, none⟩ = some (.int .i64 c) := (HL_V2.out.cell (p := ⟨w.heap.size, 2, none⟩) hl_T).trans k_T_2
        replace k_T_3 : V2.cell? ⟨w.heap.size, 3, none⟩ = some (.int .i64 d) := (HL_V2.out.cell (p := ⟨w.heap.size, 3, none⟩) hl_T).trans k_T_3
        replace f_T : ∀ o, V2.frozen? ⟨w.heap.size, o, none⟩ = false := fun o => (HL_V2.out.frozen (p := ⟨w.heap.size, o, none⟩) hl_T).trans (f_T o)
        replace HX_T := Lib.hid (show Bn V2 (w.heap.size) by rw [← hW]; exact KpA)
        replace HB := Lib.hid (show Below w.heap.size w V2 by rw [← hW]; exact BlA)
        replace hs0 : w.heap.size ≤ V2.heap.size := by rw [← hW]; (first | omega | (simp; done) | (simp; omega))
        replace hl_T : w.heap.size < V2.heap.size := by rw [← hW]; (first | omega | (simp; done) | (simp; omega))
        clear HL_V2
        clear hW
        obtain ⟨vd, hvd⟩ : ∃ v, cntB d = v := ⟨_, rfl⟩
        have Hd := Lib.hid hvd
        rw [hvd] at HV
        clear hvd
        cases vd
        · refine (xcount_is d _ false Hd.out).mono ?_
          rintro e w3 ⟨rfl, hb⟩
          have hs_w3 : V2.heap.size ≤ w3.heap.size := hb.size
          replace k_T_0 : w3.cell? ⟨w.heap.size, 0, none⟩ = some (.int .i64 a) := (hb.cell (p := ⟨w.heap.size, 0, none⟩) hl_T).trans k_T_0
          replace k_T_1 : w3.cell? ⟨w.heap.size, 1, none⟩ = some (.int .i64 b) := (hb.cell (p := ⟨w.heap.size, 1, none⟩) hl_T).trans k_T_1
          replace k_T_2 : w3.cell? ⟨w.heap.size, 2, none⟩ = some (.int .i64 c) := (hb.cell (p := ⟨w.heap.size, 2, none⟩) hl_T).trans k_T_2
          replace k_T_3 : w3.cell? ⟨w.heap.size, 3, none⟩ = some (.int .i64 d) := (hb.cell (p := ⟨w.heap.size, 3, none⟩) hl_T).trans k_T_3
          replace f_T : ∀ o, w3.frozen? ⟨w.heap.size, o, none⟩ = false := fun o => (hb.frozen (p := ⟨w.heap.size, o, none⟩) hl_T).trans (f_T o)
          replace HX_T := Lib.hid (HX_T.out.below hb)
          replace HB := Lib.hid (HB.out.trans (hb.mono hs0))
          replace hs0 : w.heap.size ≤ w3.heap.size := Nat.le_trans hs0 hb.size
          replace hl_T : w.heap.size < w3.heap.size := Nat.lt_of_lt_of_le hl_T hb.size
          clear hb
          go_wp2_with fail
          go_ret
          exact ⟨by rw [← HV]; simp, HB.out⟩
        · refine (xcount_is d _ true Hd.out).mono ?_
          rintro e w3 ⟨rfl, hb⟩
          have hs_w3 : V2.heap.size ≤ w3.heap.size := hb.size
          replace k_T_0 : w3.cell? ⟨w.heap.size, 0, none⟩ = some (.int .i64 a) := (hb.cell (p := ⟨w.heap.size, 0, none⟩) hl_T).trans k_T_0
          replace k_T_1 : w3.cell? ⟨w.heap.size, 1, none⟩ = some (.int .i64 b) := (hb.cell (p := ⟨w.heap.size, 1, none⟩) hl_T).trans k_T_1
          replace k_T_2 : w3.cell? ⟨w.heap.size, 2, none⟩ = some (.int .i64 c) := (hb.cell (p := ⟨w.heap.size, 2, none⟩) hl_T).trans k_T_2
          replace k_T_3 : w3.cell? ⟨w.heap.size, 3, none⟩ = some (.int .i64 d) := (hb.cell (p := ⟨w.heap.size, 3, none⟩) hl_T).trans k_T_3
          replace f_T : ∀ o, w3.frozen? ⟨w.heap.size, o, none⟩ = false := fun o => (hb.frozen (p := ⟨w.heap.size, o, none⟩) hl_T).trans (f_T o)
          replace HX_T := Lib.hid (HX_T.out.below hb)
          replace HB := Lib.hid (HB.out.trans (hb.mono hs0))
          replace hs0 : w.heap.size ≤ w3.heap.size := Nat.le_trans hs0 hb.size
          replace hl_T : w.heap.size < w3.heap.size := Nat.lt_of_lt_of_le hl_T hb.size
          clear hb
          go_wp2_with fail
          go_ret
          exact ⟨by rw [← HV]; rfl, HB.out⟩
set_option maxHeartbeats 2000000 in
theorem xfisher_bad {N : Nat} (a b c d : Int) (w : World) (hN : N ≤ w.heap.size) (hv : vldT a b c d = false) :
    Calls Tryz.prog 7 #[.agg #[.int .i64 a, .int .i64 b, .int .i64 c, .int .i64 d]] w (RatErr w 3) := by
  have HV := Lib.hid hv
  clear hv
  have hN0 := hN
  have HB := Lib.hid (Below.refl w.heap.size w)
  go_enter Tryz.func7, Tryz.ntmps7
  go_wp2_with fail
  refine calls_name fun W0 hW => ?_
  have hs_W0 : w.heap.size ≤ W0.heap.size := by rw [← hW]; (first | omega | (simp; done) | (simp; omega))
  have k_T_0 : W0.cell? ⟨w.heap.size, 0, none⟩ = some (.int .i64 a) := by rw [← hW]; (first | (go_simp; done) | (simp; done) | (simp [go_sem]; done) | (simp [go_sem]; done))
  have k_T_1 : W0.cell? ⟨w.heap.size, 1, none⟩ = some (.int .i64 b) := by rw [← hW]; (first | (go_simp; done) | (simp; done) | (simp [go_sem]; done) | (simp [go_sem]; done))
  have k_T_2 : W0.cell? ⟨w.heap.size, 2, none⟩ = some (.int .i64 c) := by rw [← hW]; (first | (go_simp; done) | (simp; done) | (simp [go_sem]; done) | (simp [go_sem]; done))
  have k_T_3 : W0.cell? ⟨w.heap.size, 3, none⟩ = some (.int .i64 d) := by rw [← hW]; (first | (go_simp; done) | (simp; done) | (simp [go_sem]; done) | (simp [go_sem]; done))
  have f_T : ∀ o, W0.frozen? ⟨w.heap.size, o, none⟩ = false := by intro o; rw [← hW]; (first | (go_simp; done) | (simp; done) | (simp [go_sem]; done) | (simp [go_sem]; done))
  have HX_T := Lib.hid (show Bn W0 (w.heap.size) by rw [← hW]; exact KpA)
  have k_R_0 : W0.cell? ⟨w.heap.size + 1, 0, none⟩ = some (.bool false) := by rw [← hW]; (first | (go_simp; done) | (simp; done) | (simp [go_sem]; done) | (simp [go_sem]; done))
  have k_R_1 : W0.cell? ⟨w.heap.size + 1, 1, none⟩ = some (.slice none 0 0) := by rw [← hW]; (first | (go_simp; done) | (simp; done) | (simp [go_sem]; done) | (simp [go_sem]; done))
  have k_R_2 : W0.cell? ⟨w.heap.size + 1, 2, none⟩ = some (.slice none 0 0) := by rw [← hW]; (first | (go_simp; done) | (simp; done) | (simp [go_sem]; done) | (simp [go_sem]; done))
  have f_R : ∀ o, W0.frozen? ⟨w.heap.size + 1, o, none⟩ = false := by intro o; rw [← hW]; (first | (go_simp; done) | (simp; done) | (simp [go_sem]; done) | (simp [go_sem]; done))
  have HX_R := Lib.hid (show Bn W0 (w.heap.size + 1) by rw [← hW]; exact KpA)
  replace HB := Lib.hid (show Below w.heap.size w W0 by rw [← hW]; exact BlA)
  replace hN : N ≤ W0.heap.size := by rw [← hW]; (first | omega | (simp; done) | (simp; omega))
  have hs0 : w.heap.size ≤ W0.heap.size := by rw [← hW]; (first | omega | (simp; done) | (simp; omega))
  have hl_T : w.heap.size < W0.heap.size := by rw [← hW]; (first | omega | (simp; done) | (simp; omega))
  have hl_R : w.heap.size + 1 < W0.heap.size := by rw [← hW]; (first | omega | (simp; done) | (simp; omega))
  clear hW
  refine (xtvalid_any _ _ _ _ _ false HV.out).mono ?_
  rintro e wa ⟨rfl, hb⟩
  have hs_wa : W0.heap.size ≤ wa.heap.size := hb.size
  replace k_T_0 : wa.cell? ⟨w.heap.size, 0, none⟩ = some (.int .i64 a) := (hb.cell (p := ⟨w.heap.size, 0, none⟩) hl_T).trans k_T_0
  replace k_T_1 : wa.cell? ⟨w.heap.size, 1, none⟩ = some (.int .i64 b) := (hb.cell (p := ⟨w.heap.size, 1, none⟩) hl_T).trans k_T_1
  replace k_T_2 : wa.cell? ⟨w.heap.size, 2, none⟩ = some (.int .i64 c) := (hb.cell (p := ⟨w.heap.size, 2, none⟩) hl_T).trans k_T_2
  replace k_T_3 : wa.cell? ⟨w.heap.size, 3, none⟩ = some (.int .i64 d) := (hb.cell (p := ⟨w.heap.size, 3, none⟩) hl_T).trans k_T_3
  replace f_T : ∀ o, wa.frozen? ⟨w.heap.size, o, none⟩ = false := fun o => (hb.frozen (p := ⟨w.heap.size, o, none⟩) hl_T).trans (f_T o)
  replace HX_T := Lib.hid (HX_T.out.below hb)
  replace k_R_0 : wa.cell? ⟨w.heap.size + 1, 0, none⟩ = some (.bool false) := (hb.cell (p := ⟨w.heap.size + 1, 0, none⟩) hl_R).trans k_R_0
  replace k_R_1 : wa.cell? ⟨w.heap.size + 1, 1, none⟩ = some (.slice none 0 0) := (hb.cell (p := ⟨w.heap.size + 1, 1, none⟩) hl_R).trans k_R_1
  replace k_R_2 : wa.cell? ⟨w.heap.size + 1, 2, none⟩ = some (.slice none 0 0) := (hb.cell (p := ⟨w.heap.size + 1, 2, none⟩) hl_R).trans k_R_2
  replace f_R : ∀ o, wa.frozen? ⟨w.heap.size + 1, o, none⟩ = false := fun o => (hb.frozen (p := ⟨w.heap.size + 1, o, none⟩) hl_R).trans (f_R o)
  replace HX_R := Lib.hid (HX_R.out.below hb)
  replace HB := Lib.hid (HB.out.trans (hb.mono hs0))
  replace hN : N ≤ wa.heap.size := Nat.le_trans hN hb.size
  replace hs0 : w.heap.size ≤ wa.heap.size := Nat.le_trans hs0 hb.size
  replace hl_T : w.heap.size < wa.heap.size := Nat.lt_of_lt_of_le hl_T hb.size
  replace hl_R : w.heap.size + 1 < wa.heap.size := Nat.lt_of_lt_of_le hl_R hb.size
  clear hb
  go_wp2_with fail
  refine bodyPost_ret (v := .tuple #[.agg #[.bool false, .slice none 0 0, .slice none 0 0], .int .i64 3]) (by simp [results, Tryz.results7, go_sem, k_R_0, k_R_1, k_R_2]) rfl ⟨rfl, ?_⟩
  all_goals exact KBA
set_option maxHeartbeats 4000000 in
theorem xfisher_ok {N : Nat} (a b c d : Nat) (w : World) (hN : N ≤ w.heap.size) (ha : a ≤ 30) (hb : b ≤ 30) (hc : c ≤ 30) (hd : d ≤ 30) (p : Rat) (hp : fishQ a b c d = p) :
    Calls Tryz.prog 7 #[.agg #[.int .i64 (a : Nat), .int .i64 (b : Nat), .int .i64 (c : Nat), .int .i64 (d : Nat)]] w (RatOk N w p) := by
  have HV := Lib.hid (show vldT a b c d = true from vldT_iff.2 ⟨by omega, by omega, by omega, by omega⟩)
  obtain ⟨r, hr⟩ : ∃ r, a + b = r := ⟨_, rfl⟩
  obtain ⟨m, hm⟩ : ∃ m, a + c = m := ⟨_, rfl⟩
  obtain ⟨t, ht⟩ : ∃ t, a + b + c + d = t := ⟨_, rfl⟩
  obtain ⟨n, hn⟩ : ∃ n, min m r + 1 = n := ⟨_, rfl⟩
  have HNN := Lib.hid hn
  have HP := Lib.hid (show bothQ (hyQ t m r) n a = p by rw [← hn, ← hm, ← hr, ← ht]; exact hp)
  have HVV := Lib.hid (show valid (hyQ t m r) n = true by rw [← hn]; exact hyQ_valid t m r (by omega) (by omega) (by omega))
  have han : a < n := by omega
  have hnn : n ≤ 61 := by omega
  have e1 : (a : Int) + (b : Int) = (r : Int) := by omega
  have e2 : (r : Int) + (c : Int) + (d : Int) = (t : Int) := by omega
  have e3 : (a : Int) + (c : Int) = (m : Int) := by omega
  have t1 : t ≤ 120 := by omega
  have t2 : m ≤ t := by omega
  have t3 : r ≤ t := by omega
  have t4 : (r : Int) + (c : Int) ≤ 120 := by omega
  clear hp hr hm ht hn
  have hN0 := hN
  have HB := Lib.hid (Below.refl w.heap.size w)
  go_enter Tryz.func7, Tryz.ntmps7
  go_wp2_with fail
  refine calls_name fun W0 hW => ?_
  have hs_W0 : w.heap.size ≤ W0.heap.size := by rw [← hW]; (first | omega | (simp; done) | (simp; omega))
  have k_T_0 : W0.cell? ⟨w.heap.size, 0, none⟩ = some (.int .i64 (a : Nat)) := by rw [← hW]; (first | (go_simp; done) | (simp; done) | (simp [go_sem]; done) | (simp [go_sem]; done))
  have k_T_1 : W0.cell? ⟨w.heap.size, 1, none⟩ = some (.int .i64 (b : Nat)) := by rw [← hW]; (first | (go_simp; done) | (simp; done) | (simp [go_sem]; done) | (simp [go_sem]; done))
  have k_T_2 : W0.cell? ⟨w.heap.size, 2, none⟩ = some (.int .i64 (c : Nat)) := by rw [← hW]; (first | (go_simp; done) | (simp; done) | (simp [go_sem]; done) | (simp [go_sem]; done))
  have k_T_3 : W0.cell? ⟨w.heap.size, 3, none⟩ = some (.int .i64 (d : Nat)) := by rw [← hW]; (first | (go_simp; done) | (simp; done) | (simp [go_sem]; done) | (simp [go_sem]; done))
  have f_T : ∀ o, W0.frozen? ⟨w.heap.size, o, none⟩ = false := by intro o; rw [← hW]; (first | (go_simp; done) | (simp; done) | (simp [go_sem]; done) | (simp [go_sem]; done))
  have HX_T := Lib.hid (show Bn W0 (w.heap.size) by rw [← hW]; exact KpA)
  have k_R_0 : W0.cell? ⟨w.heap.size + 1, 0, none⟩ = some (.bool false) := by rw [← hW]; (first | (go_simp; done) | (simp; done) | (simp [go_sem]; done) | (simp [go_sem]; done))
  have k_R_1 : W0.cell? ⟨w.heap.size + 1, 1, none⟩ = some (.slice none 0 0) := by rw [← hW]; (first | (go_simp; done) | (simp; done) | (simp [go_sem]; done) | (simp [go_sem]; done))
  have k_R_2 : W0.cell? ⟨w.heap.size + 1, 2, none⟩ = some (.slice none 0 0) := by rw [← hW]; (first | (go_simp; done) | (simp; done) | (simp [go_sem]; done) | (simp [go_sem]; done))
  have f_R : ∀ o, W0.frozen? ⟨w.heap.size + 1, o, none⟩ = false := by intro o; rw [← hW]; (first | (go_simp; done) | (simp; done) | (simp [go_sem]; done) | (simp [go_sem]; done))
  have HX_R := Lib.hid (show Bn W0 (w.heap.size + 1) by rw [← hW]; exact KpA)
  replace HB := Lib.hid (show Below w.heap.size w W0 by rw [← hW]; exact BlA)
  replace hN : N ≤ W0.heap.size := by rw [← hW]; (first | omega | (simp; done) | (simp; omega))
  have hs0 : w.heap.size ≤ W0.heap.size := by rw [← hW]; (first | omega | (simp; done) | (simp; omega))
  have hl_T : w.heap.size < W0.heap.size := by rw [← hW]; (first | omega | (simp; done) | (simp; omega))
  have hl_R : w.heap.size + 1 < W0.heap.size := by rw [← hW]; (first | omega | (simp; done) | (simp; omega))
  clear hW
  refine (xtvalid_any _ _ _ _ _ true HV.out).mono ?_
  rintro e wa ⟨rfl, hb⟩
  have hs_wa : W0.heap.size ≤ wa.heap.size := hb.size
  replace k_T_0 : wa.cell? ⟨w.heap.size, 0, none⟩ = some (.int .i64 (a : Nat)) := (hb.cell (p := ⟨w.heap.size, 0, none⟩) hl_T).trans k_T_0
  replace k_T_1 : wa.cell? ⟨w.heap.size, 1, none⟩ = some (.int .i64 (b : Nat)) := (hb.cell (p := ⟨w.heap.size, 1, none⟩) hl_T).trans k_T_1
  replace k_T_2 : wa.cell? ⟨w.heap.size, 2, none⟩ = some (.int .i64 (c : Nat)) := (hb.cell (p := ⟨w.heap.size, 2, none⟩) hl_T).trans k_T_2
  replace k_T_3 : wa.cell? ⟨w.heap.size, 3, none⟩ = some (.int .i64 (d : Nat)) := (hb.cell (p := ⟨w.heap.size, 3, none⟩) hl_T).trans k_T_3
  replace f_T : ∀ o, wa.frozen? ⟨w.heap.size, o, none⟩ = false := fun o => (hb.frozen (p := ⟨w.heap.size, o, none⟩) hl_T).trans (f_T o)
  replace HX_T := Lib.hid (HX_T.out.below hb)
  replace k_R_0 : wa.cell? ⟨w.heap.size + 1, 0, none⟩ = some (.bool false) := (hb.cell (p := ⟨w.heap.size + 1, 0, none⟩) hl_R).trans k_R_0
  replace k_R_1 : wa.cell? ⟨w.heap.size + 1, 1, none⟩ = some (.slice none 0 0) := (hb.cell (p := ⟨w.heap.size + 1, 1, none⟩) hl_R).trans k_R_1
  replace k_R_2 : wa.cell? ⟨w.heap.size + 1, 2, none⟩ = some (.slice none 0 0) := (hb.cell (p := ⟨w.heap.size + 1, 2, none⟩) hl_R).trans k_R_2
  replace f_R : ∀ o, wa.frozen? ⟨w.heap.size + 1, o, none⟩ = false := fun o => (hb.frozen (p := ⟨w.heap.size + 1, o, none⟩) hl_R).trans (f_R o)
  replace HX_R := Lib.hid (HX_R.out.below hb)
  replace HB := Lib.hid (HB.out.trans (hb.mono hs0))
  replace hN : N ≤ wa.heap.size := Nat.le_trans hN hb.size
  replace hs0 : w.heap.size ≤ wa.heap.size := Nat.le_trans hs0 hb.size
  replace hl_T : w.heap.size < wa.heap.size := Nat.lt_of_lt_of_le hl_T hb.size
  replace hl_R : w.heap.size + 1 < wa.heap.size := Nat.lt_of_lt_of_le hl_R hb.size
  clear hb
  go_wp2_with fail
  refine calls_name fun W1 hW => ?_
  have HL_W1 := Lib.hid (show Below wa.heap.size wa W1 by rw [← hW]; exact BlA)
  have hs_W1 : wa.heap.size ≤ W1.heap.size := by rw [← hW]; (first | omega | (simp; done) | (simp; omega))
  replace k_T_0 : W1.cell? ⟨w.heap.size, 0, none⟩ = some (.int .i64 (a : Nat)) := (HL_W1.out.cell (p := ⟨w.heap.size, 0, none⟩) hl_T).trans k_T_0
  replace k_T_1 : W1.cell? ⟨w.heap.size, 1, none⟩ = some (.int .i64 (b : Nat)) := (HL_W1.out.cell (p := ⟨w.heap.size, 1, none⟩) hl_T).trans k_T_1
  replace k_T_2 : W1.cell? ⟨w.heap.size, 2, none⟩ = some (.int .i64 (c : Nat)) := (HL_W1.out.cell (p := ⟨w.heap.size, 2, none⟩) hl_T).trans k_T_2
  replace k_T_3 : W1.cell? ⟨w.heap.size, 3, none⟩ = some (.int .i64 (d : Nat)) := (HL_W1.out.cell (p := ⟨w.heap.size, 3, none⟩) hl_T).trans k_T_3
  replace f_T : ∀ o, W1.frozen? ⟨w.heap.size, o, none⟩ = false := fun o => (HL_W1.out.frozen (p := ⟨w.heap.size, o, none⟩) hl_T).trans (f_T o)
  replace HX_T := Lib.hid (show Bn W1 (w.heap.size) by rw [← hW]; exact KpA)
  replace k_R_0 : W1.cell? ⟨w.heap.size + 1, 0, none⟩ = some (.bool false) := (HL_W1.out.cell (p := ⟨w.heap.size + 1, 0, none⟩) hl_R).trans k_R_0
  replace k_R_1 : W1.cell? ⟨w.heap.size + 1, 1, none⟩ = some (.slice none 0 0) := (HL_W1.out.cell (p := ⟨w.heap.size + 1, 1, none⟩) hl_R).trans k_R_1
  replace k_R_2 : W1.cell? ⟨w.heap.size + 1, 2, none⟩ = some (.slice none 0 0) := (HL_W1.out.cell (p := ⟨w.heap.size + 1, 2, none⟩) hl_R).trans k_R_2
  replace f_R : ∀ o, W1.frozen? ⟨w.heap.size + 1, o, none⟩ = false := fun o => (HL_W1.out.frozen (p := ⟨w.heap.size + 1, o, none⟩) hl_R).trans (f_R o)
  replace HX_R := Lib.hid (show Bn W1 (w.heap.size + 1) by rw [← hW]; exact KpA)
  replace HB := Lib.hid (show Below w.heap.size w W1 by rw [← hW]; exact BlA)
  replace hN : N ≤ W1.heap.size := by rw [← hW]; (first | omega | (simp; done) | (simp; omega))
  replace hs0 : w.heap.size ≤ W1.heap.size := by rw [← hW]; (first | omega | (simp; done) | (simp; omega))
  replace hl_T : w.heap.size < W1.heap.size := by rw [← hW]; (first | omega | (simp; done) | (simp; omega))
  replace hl_R : w.heap.size + 1 < W1.heap.size := by rw [← hW]; (first | omega | (simp; done) | (simp; omega))
  clear HL_W1
  clear hW
  refine (xhyper_ok (N := N) t m r n _ hN (by omega) (by omega) (by omega) HNN.out (hyQ t m r) (fun i _ => rfl)).mono ?_
  rintro e wb ⟨ao, co, rfl, hl, hb⟩
  have hs_wb : W1.heap.size ≤ wb.heap.size := hb.size
  replace k_T_0 : wb.cell? ⟨w.heap.size, 0, none⟩ = some (.int .i64 (a : Nat)) := (hb.cell (p := ⟨w.heap.size, 0, none⟩) hl_T).trans k_T_0
  replace k_T_1 : wb.cell? ⟨w.heap.size, 1, none⟩ = some (.int .i64 (b : Nat)) := (hb.cell (p := ⟨w.heap.size, 1, none⟩) hl_T).trans k_T_1
  replace k_T_2 : wb.cell? ⟨w.heap.size, 2, none⟩ = some (.int .i64 (c : Nat)) := (hb.cell (p := ⟨w.heap.size, 2, none⟩) hl_T).trans k_T_2
  replace k_T_3 : wb.cell? ⟨w.heap.size, 3, none⟩ = some (.int .i64 (d : Nat)) := (hb.cell (p := ⟨w.heap.size, 3, none⟩) hl_T).trans k_T_3
  replace f_T : ∀ o, wb.frozen? ⟨w.heap.size, o, none⟩ = false := fun o => (hb.frozen (p := ⟨w.heap.size, o, none⟩) hl_T).trans (f_T o)
  replace HX_T := Lib.hid (HX_T.out.below hb)
  replace k_R_0 : wb.cell? ⟨w.heap.size + 1, 0, none⟩ = some (.bool false) := (hb.cell (p := ⟨w.heap.size + 1, 0, none⟩) hl_R).trans k_R_0
  replace k_R_1 : wb.cell? ⟨w.heap.size + 1, 1, none⟩ = some (.slice none 0 0) := (hb.cell (p := ⟨w.heap.size + 1, 1, none⟩) hl_R).trans k_R_1
  replace k_R_2 : wb.cell? ⟨w.heap.size + 1, 2, none⟩ = some (.slice none 0 0) := (hb.cell (p := ⟨w.heap.size + 1, 2, none⟩) hl_R).trans k_R_2
  replace f_R : ∀ o, wb.frozen? ⟨w.heap.size + 1, o, none⟩ = false := fun o => (hb.frozen (p := ⟨w.heap.size + 1, o, none⟩) hl_R).trans (f_R o)
  replace HX_R := Lib.hid (HX_R.out.below hb)
  replace HB := Lib.hid (HB.out.trans (hb.mono hs0))
  replace hN : N ≤ wb.heap.size := Nat.le_trans hN hb.size
  replace hs0 : w.heap.size ≤ wb.heap.size := Nat.le_trans hs0 hb.size
  replace hl_T : w.heap.size < wb.heap.size := Nat.lt_of_lt_of_le hl_T hb.size
  replace hl_R : w.heap.size + 1 < wb.heap.size := Nat.lt_of_lt_of_le hl_R hb.size
  clear hb
  have HD := Lib.hid hl
  clear hl
  go_wp2_with fail
  refine (xBoth_in (N := N) _ n _ (hyQ t m r) 14 _ hN ((HD.out).rs 14 (fun i hi => hyQ_len t m r i (by omega) (by omega))) (by omega) HVV.out a (by omega) p HP.out).mono ?_
  rintro e wc ⟨ru, cu, ru2, cu2, rfl, hn, hn', hb⟩
  have hs_wc : wb.heap.size ≤ wc.heap.size := hb.size
  replace k_T_0 : wc.cell? ⟨w.heap.size, 0, none⟩ = some (.int .i64 (a : Nat)) := (hb.cell (p := ⟨w.heap.size, 0, none⟩) hl_T).trans k_T_0
  replace k_T_1 : wc.cell? ⟨w.heap.size, 1, none⟩ = some (.int .i64 (b : Nat)) := (hb.cell (p := ⟨w.heap.size, 1, none⟩) hl_T).trans k_T_1
  replace k_T_2 : wc.cell? ⟨w.heap.size, 2, none⟩ = some (.int .i64 (c : Nat)) := (hb.cell (p := ⟨w.heap.size, 2, none⟩) hl_T).trans k_T_2
  replace k_T_3 : wc.cell? ⟨w.heap.size, 3, none⟩ = some (.int .i64 (d : Nat)) := (hb.cell (p := ⟨w.heap.size, 3, none⟩) hl_T).trans k_T_3
  replace f_T : ∀ o, wc.frozen? ⟨w.heap.size, o, none⟩ = false := fun o => (hb.frozen (p := ⟨w.heap.size, o, none⟩) hl_T).trans (f_T o)
  replace HX_T := Lib.hid (HX_T.out.below hb)
  replace k_R_0 : wc.cell? ⟨w.heap.size + 1, 0, none⟩ = some (.bool false) := (hb.cell (p := ⟨w.heap.size + 1, 0, none⟩) hl_R).trans k_R_0
  replace k_R_1 : wc.cell? ⟨w.heap.size + 1, 1, none⟩ = some (.slice none 0 0) := (hb.cell (p := ⟨w.heap.size + 1, 1, none⟩) hl_R).trans k_R_1
  replace k_R_2 : wc.cell? ⟨w.heap.size + 1, 2, none⟩ = some (.slice none 0 0) := (hb.cell (p := ⟨w.heap.size + 1, 2, none⟩) hl_R).trans k_R_2
  replace f_R : ∀ o, wc.frozen? ⟨w.heap.size + 1, o, none⟩ = false := fun o => (hb.frozen (p := ⟨w.heap.size + 1, o, none⟩) hl_R).trans (f_R o)
  replace HX_R := Lib.hid (HX_R.out.below hb)
  replace HB := Lib.hid (HB.out.trans (hb.mono hs0))
  replace hN : N ≤ wc.heap.size := Nat.le_trans hN hb.size
  replace hs0 : w.heap.size ≤ wc.heap.size := Nat.le_trans hs0 hb.size
  replace hl_T : w.heap.size < wc.heap.size := Nat.lt_of_lt_of_le hl_T hb.size
  replace hl_R : w.heap.size + 1 < wc.heap.size := Nat.lt_of_lt_of_le hl_R hb.size
  replace HD := Lib.hid (HD.out.below hb)
  clear hb
  have HP1 := Lib.hid hn
  clear hn
  have HQ1 := Lib.hid hn'
  clear hn'
  go_wp2_with fail
  refine bodyPost_ret (v := .tuple #[.agg #[.bool (decide ((p).num < 0)), .slice ru (nlen (p).num.natAbs) cu, .slice ru2 (nlen (p).den) cu2], .int .i64 0]) (by simp [results, Tryz.results7, go_sem, k_R_0, k_R_1, k_R_2]) rfl ⟨_, _, _, _, rfl, HP1.out.keep ?_, HQ1.out.keep ?_, ?_⟩
  all_goals exact KBA
set_option maxHeartbeats 1000000 in
theorem xcheck_long {N : Nat} (a : Option Addr) (n cap : Nat) (q : Nat → Rat) (s2 : Bool) (a2 d2 : Option Addr) (na2 ca2 nd2 cd2 L : Nat) (al : Rat) (w : World) (_hN : N ≤ w.heap.size) (h : Rs N w a n cap q L) (_h2 : Rt N w s2 a2 na2 ca2 d2 nd2 cd2 al L) (_hL : L ≤ 2097152) (hn : 60 < n) :
    Calls Tryz.prog 36 #[.slice a n cap, .agg #[.bool s2, .slice a2 na2 ca2, .slice d2 nd2 cd2]] w fun e w' => e = .returned (.int .i64 5) ∧ Below w.heap.size w w' := by
  have bc := h.1
  have bm := h.2.1
  unfold maxLen at bm
  clear h
  go_enter Tryz.func36, Tryz.ntmps36
  go_wp2_with fail
  go_ret
  exact ⟨rfl, bel1 _ _⟩
set_option maxHeartbeats 4000000 in
theorem xcheck_any {N : Nat} (a : Option Addr) (n cap : Nat) (q : Nat → Rat) (s2 : Bool) (a2 d2 : Option Addr) (na2 ca2 nd2 cd2 L : Nat) (al : Rat) (w : World) (hN : N ≤ w.heap.size) (h : Rs N w a n cap q L) (h2 : Rt N w s2 a2 na2 ca2 d2 nd2 cd2 al L) (hL : L ≤ 2097152) (c : Int) (hc : chkC q n al = c) :
    Calls Tryz.prog 36 #[.slice a n cap, .agg #[.bool s2, .slice a2 na2 ca2, .slice d2 nd2 cd2]] w fun e w' => e = .returned (.int .i64 c) ∧ Below w.heap.size w w' := by
  rcases Nat.lt_or_ge 60 n with h60 | h60
  · rw [show c = 5 by rw [← hc]; unfold chkC; rw [if_pos h60]]
    exact xcheck_long a n cap q s2 a2 d2 na2 ca2 nd2 cd2 L al w hN h h2 hL h60
  unfold chkC at hc
  rw [if_neg (by omega)] at hc
  have HCC := Lib.hid hc
  clear hc
  have HA := Lib.hid h
  have HAA := Lib.hid h2
  have bc := h.1
  have bm := h.2.1
  unfold maxLen at bm
  clear h h2
  have hN0 := hN
  have HB := Lib.hid (Below.refl w.heap.size w)
  go_enter Tryz.func36, Tryz.ntmps36
  go_wp2_with fail
  go_loopw [5] (fun i wr => ∃ k : Nat, k ≤ n ∧ i = .int .i64 k ∧ Hid (∀ j, j < k → prb (q j) = true) ∧ Below w.heap.size w wr ∧ Box3 wr w.heap.size (.bool s2) (.slice a2 na2 ca2) (.slice d2 nd2 cd2)) (fun i _ => n - (intOf i).toNat)
  case atStart => exact ⟨0, Nat.zero_le _, rfl, (fun j hj => by omega), bel1 _ _, ⟨by first | omega | (simp; done) | (simp; omega), by exact KpA, fun o => by first | (go_simp; done) | (simp; done) | (simp [go_sem]; done) | (simp [go_sem]; done), by first | with_reducible assumption | (go_simp; done) | (simp; done) | (simp [go_sem]; done) | (simp [go_sem]; done), by first | with_reducible assumption | (go_simp; done) | (simp; done) | (simp [go_sem]; done) | (simp [go_sem]; done), by first | with_reducible assumption | (go_simp; done) | (simp; done) | (simp [go_sem]; done) | (simp [go_sem]; done)⟩⟩
  case round =>
    obtain ⟨k, hk, rfl, hin, hbel, hbx⟩ := hrel
    have hsz : w.heap.size ≤ wr.heap.size := hbel.size
    have HAA2 := Lib.hid (HAA.out.below hbel)
    clear HAA
    have HAA := HAA2
    clear HAA2
    have HA2 := Lib.hid (HA.out.below hbel)
    have HB := Lib.hid hbel
    have hs0 : w.heap.size ≤ wr.heap.size := by omega
    have hN2 : N ≤ wr.heap.size := by omega
    clear hbel
    clear hN
    have hN := hN2
    clear hN2
    obtain ⟨hl_A, bn_A, f_A, k_A_0, k_A_1, k_A_2⟩ := hbx
    have HX_A := Lib.hid bn_A
    clear bn_A
    by_cases hkn : k < n
    · obtain ⟨b, off, rfl, hc⟩ := HA2.out.2.2 (by omega)
      obtain ⟨sk, ra, rn, rc, da, dn, dc, g0, g1, g2, hrt⟩ := hc k hkn
      have HR := Lib.hid hrt
      clear hc hrt HA2
      have hkz : (k : Int) < (n : Int) := by omega
      rcases Bool.eq_false_or_eq_true (prb (q k)) with hpb | hpb
      · have HPB := Lib.hid hpb
        clear hpb
        go_wp2_with fail
        refine calls_name fun W1 hW => ?_
        have HL_W1 := Lib.hid (show Below wr.heap.size wr W1 by rw [← hW]; exact BlA)
        have hs_W1 : wr.heap.size ≤ W1.heap.size := by rw [← hW]; (first | omega | (simp; done) | (simp; omega))
        have HK_W1 := Lib.hid (show Kp N wr W1 by rw [← hW]; exact KpA)
        replace k_A_0 : W1.cell? ⟨w.heap.size, 0, none⟩ = some (.bool s2) := (HL_W1.out.cell (p := ⟨w.heap.size, 0, none⟩) hl_A).trans k_A_0
        replace k_A_1 : W1.cell? ⟨w.heap.size, 1, none⟩ = some (.slice a2 na2 ca2) := (HL_W1.out.cell (p := ⟨w.heap.size, 1, none⟩) hl_A).trans k_A_1
        replace k_A_2 : W1.cell? ⟨w.heap.size, 2, none⟩ = some (.slice d2 nd2 cd2) := (HL_W1.out.cell (p := ⟨w.heap.size, 2, none⟩) hl_A).trans k_A_2
        replace f_A : ∀ o, W1.frozen? ⟨w.heap.size, o, none⟩ = false := fun o => (HL_W1.out.frozen (p := ⟨w.heap.size, o, none⟩) hl_A).trans (f_A o)
        replace HX_A := Lib.hid (show Bn W1 (w.heap.size) by rw [← hW]; exact KpA)
        replace HR := Lib.hid (HR.out.keep HK_W1.out)
        replace HB := Lib.hid (show Below w.heap.size w W1 by rw [← hW]; exact BlA)
        replace hN : N ≤ W1.heap.size := by rw [← hW]; (first | omega | (simp; done) | (simp; omega))
        replace hs0 : w.heap.size ≤ W1.heap.size := by rw [← hW]; (first | omega | (simp; done) | (simp; omega))
        replace hl_A : w.heap.size < W1.heap.size := by rw [← hW]; (first | omega | (simp; done) | (simp; omega))
        replace HAA := Lib.hid (HAA.out.below HL_W1.out)
        clear HL_W1
        clear hW HK_W1
        refine (Share_any (N := N) _ _ _ _ _ _ _ L (q k) _ hN HR.out (by omega) true HPB.out).mono ?_
        rintro e wa ⟨rfl, hb⟩
        have hs_wa : W1.heap.size ≤ wa.heap.size := hb.size
        replace k_A_0 : wa.cell? ⟨w.heap.size, 0, none⟩ = some (.bool s2) := (hb.cell (p := ⟨w.heap.size, 0, none⟩) hl_A).trans k_A_0
        replace k_A_1 : wa.cell? ⟨w.heap.size, 1, none⟩ = some (.slice a2 na2 ca2) := (hb.cell (p := ⟨w.heap.size, 1, none⟩) hl_A).trans k_A_1
        replace k_A_2 : wa.cell? ⟨w.heap.size, 2, none⟩ = some (.slice d2 nd2 cd2) := (hb.cell (p := ⟨w.heap.size, 2, none⟩) hl_A).trans k_A_2
        replace f_A : ∀ o, wa.frozen? ⟨w.heap.size, o, none⟩ = false := fun o => (hb.frozen (p := ⟨w.heap.size, o, none⟩) hl_A).trans (f_A o)
        replace HX_A := Lib.hid (HX_A.out.below hb)
        replace HR := Lib.hid (HR.out.below hb)
        replace HB := Lib.hid (HB.out.trans (hb.mono hs0))
        replace hN : N ≤ wa.heap.size := Nat.le_trans hN hb.size
        replace hs0 : w.heap.size ≤ wa.heap.size := Nat.le_trans hs0 hb.size
        replace hl_A : w.heap.size < wa.heap.size := Nat.lt_of_lt_of_le hl_A hb.size
        replace HAA := Lib.hid (HAA.out.below hb)
        clear hb
        go_wp2_with fail
        go_roundw
        case rel => exact ⟨k + 1, by omega, by go_num, all_succ hin.out HPB.out, HB.out, hl_A, HX_A.out, f_A, k_A_0, k_A_1, k_A_2⟩
        case measure => simp [intOf]; omega
      · have HPB := Lib.hid hpb
        clear hpb
        go_wp2_with fail
        refine calls_name fun W1 hW => ?_
        have HL_W1 := Lib.hid (show Below wr.heap.size wr W1 by rw [← hW]; exact BlA)
        have hs_W1 : wr.heap.size ≤ W1.heap.size := by rw [← hW]; (first | omega | (simp; done) | (simp; omega))
        have HK_W1 := Lib.hid (show Kp N wr W1 by rw [← hW]; exact KpA)
        replace k_A_0 : W1.cell? ⟨w.heap.size, 0, none⟩ = some (.bool s2) := (HL_W1.out.cell (p := ⟨w.heap.size, 0, none⟩) hl_A).trans k_A_0
        replace k_A_1 : W1.cell? ⟨w.heap.size, 1, none⟩ = some (.slice a2 na2 ca2) := (HL_W1.out.cell (p := ⟨w.heap.size, 1, none⟩) hl_A).trans k_A_1
        replace k_A_2 : W1.cell? ⟨w.heap.size, 2, none⟩ = some (.slice d2 nd2 cd2) := (HL_W1.out.cell (p := ⟨w.heap.size, 2, none⟩) hl_A).trans k_A_2
        replace f_A : ∀ o, W1.frozen? ⟨w.heap.size, o, none⟩ = false := fun o => (HL_W1.out.frozen (p := ⟨w.heap.size, o, none⟩) hl_A).trans (f_A o)
        replace HX_A := Lib.hid (show Bn W1 (w.heap.size) by rw [← hW]; exact KpA)
        replace HR := Lib.hid (HR.out.keep HK_W1.out)
        replace HB := Lib.hid (show Below w.heap.size w W1 by rw [← hW]; exact BlA)
        replace hN : N ≤ W1.heap.size := by rw [← hW]; (first | omega | (simp; done) | (simp; omega))
        replace hs0 : w.heap.size ≤ W1.heap.size := by rw [← hW]; (first | omega | (simp; done) | (simp; omega))
        replace hl_A : w.heap.size < W1.heap.size := by rw [← hW]; (first | omega | (simp; done) | (simp; omega))
        replace HAA := Lib.hid (HAA.out.below HL_W1.out)
        clear HL_W1
        clear hW HK_W1
        refine (Share_any (N := N) _ _ _ _ _ _ _ L (q k) _ hN HR.out (by omega) false HPB.out).mono ?_
        rintro e wa ⟨rfl, hb⟩
        have hs_wa : W1.heap.size ≤ wa.heap.size := hb.size
        replace k_A_0 : wa.cell? ⟨w.heap.size, 0, none⟩ = some (.bool s2) := (hb.cell (p := ⟨w.heap.size, 0, none⟩) hl_A).trans k_A_0
        replace k_A_1 : wa.cell? ⟨w.heap.size, 1, none⟩ = some (.slice a2 na2 ca2) := (hb.cell (p := ⟨w.heap.size, 1, none⟩) hl_A).trans k_A_1
        replace k_A_2 : wa.cell? ⟨w.heap.size, 2, none⟩ = some (.slice d2 nd2 cd2) := (hb.cell (p := ⟨w.heap.size, 2, none⟩) hl_A).trans k_A_2
        replace f_A : ∀ o, wa.frozen? ⟨w.heap.size, o, none⟩ = false := fun o => (hb.frozen (p := ⟨w.heap.size, o, none⟩) hl_A).trans (f_A o)
        replace HX_A := Lib.hid (HX_A.out.below hb)
        replace HR := Lib.hid (HR.out.below hb)
        replace HB := Lib.hid (HB.out.trans (hb.mono hs0))
        replace hN : N ≤ wa.heap.size := Nat.le_trans hN hb.size
        replace hs0 : w.heap.size ≤ wa.heap.size := Nat.le_trans hs0 hb.size
        replace hl_A : w.heap.size < wa.heap.size := Nat.lt_of_lt_of_le hl_A hb.size
        replace HAA := Lib.hid (HAA.out.below hb)
        clear hb
        go_wp2_with fail
        have ec : c = 3 := by rw [← HCC.out, if_neg (fun hh => absurd ((hh.1 k hkn).symm.trans HPB.out) (by decide))]
        go_ret
        exact ⟨by rw [ec]; rfl, HB.out⟩
    · obtain rfl : n = k := by omega
      rcases Bool.eq_false_or_eq_true (prb al) with hpa | hpa
      · have HPA := Lib.hid hpa
        clear hpa
        go_wp2_with fail
        refine calls_name fun W1 hW => ?_
        have HL_W1 := Lib.hid (show Below wr.heap.size wr W1 by rw [← hW]; exact BlA)
        have hs_W1 : wr.heap.size ≤ W1.heap.size := by rw [← hW]; (first | omega | (simp; done) | (simp; omega))
        replace k_A_0 : W1.cell? ⟨w.heap.size, 0, none⟩ = some (.bool s2) := (HL_W1.out.cell (p := ⟨w.heap.size, 0, none⟩) hl_A).trans k_A_0
        replace k_A_1 : W1.cell? ⟨w.heap.size, 1, none⟩ = some (.slice a2 na2 ca2) := (HL_W1.out.cell (p := ⟨w.heap.size, 1, none⟩) hl_A).trans k_A_1
        replace k_A_2 : W1.cell? ⟨w.heap.size, 2, none⟩ = some (.slice d2 nd2 cd2) := (HL_W1.out.cell (p := ⟨w.heap.size, 2, none⟩) hl_A).trans k_A_2
        replace f_A : ∀ o, W1.frozen? ⟨w.heap.size, o, none⟩ = false := fun o => (HL_W1.out.frozen (p := ⟨w.heap.size, o, none⟩) hl_A).trans (f_A o)
        replace HX_A := Lib.hid (show Bn W1 (w.heap.size) by rw [← hW]; exact KpA)
        replace HB := Lib.hid (show Below w.heap.size w W1 by rw [← hW]; exact BlA)
        replace hN : N ≤ W1.heap.size := by rw [← hW]; (first | omega | (simp; done) | (simp; omega))
        replace hs0 : w.heap.size ≤ W1.heap.size := by rw [← hW]; (first | omega | (simp; done) | (simp; omega))
        replace hl_A : w.heap.size < W1.heap.size := by rw [← hW]; (first | omega | (simp; done) | (simp; omega))
        replace HAA := Lib.hid (HAA.out.below HL_W1.out)
        clear HL_W1
        clear hW
        refine (Share_any (N := N) _ _ _ _ _ _ _ L al _ hN HAA.out (by omega) true HPA.out).mono ?_
        rintro e wa ⟨rfl, hb⟩
        have hs_wa : W1.heap.size ≤ wa.heap.size := hb.size
        replace k_A_0 : wa.cell? ⟨w.heap.size, 0, none⟩ = some (.bool s2) := (hb.cell (p := ⟨w.heap.size, 0, none⟩) hl_A).trans k_A_0
        replace k_A_1 : wa.cell? ⟨w.heap.size, 1, none⟩ = some (.slice a2 na2 ca2) := (hb.cell (p := ⟨w.heap.size, 1, none⟩) hl_A).trans k_A_1
        replace k_A_2 : wa.cell? ⟨w.heap.size, 2, none⟩ = some (.slice d2 nd2 cd2) := (hb.cell (p := ⟨w.heap.size, 2, none⟩) hl_A).trans k_A_2
        replace f_A : ∀ o, wa.frozen? ⟨w.heap.size, o, none⟩ = false := fun o => (hb.frozen (p := ⟨w.heap.size, o, none⟩) hl_A).trans (f_A o)
        replace HX_A := Lib.hid (HX_A.out.below hb)
        replace HB := Lib.hid (HB.out.trans (hb.mono hs0))
        replace hN : N ≤ wa.heap.size := Nat.le_trans hN hb.size
        replace hs0 : w.heap.size ≤ wa.heap.size := Nat.le_trans hs0 hb.size
        replace hl_A : w.heap.size < wa.heap.size := Nat.lt_of_lt_of_le hl_A hb.size
        replace HAA := Lib.hid (HAA.out.below hb)
        clear hb
        go_wp2_with fail
        have ec : c = 0 := by rw [← HCC.out, if_pos ⟨hin.out, HPA.out⟩]
        go_ret
        exact ⟨by rw [ec]; rfl, HB.out⟩
      · have HPA := Lib.hid hpa
        clear hpa
        go_wp2_with fail
        refine calls_name fun W1 hW => ?_
        have HL_W1 := Lib.hid (show Below wr.heap.size wr W1 by rw [← hW]; exact BlA)
        have hs_W1 : wr.heap.size ≤ W1.heap.size := by rw [← hW]; (first | omega | (simp; done) | (simp; omega))
        replace k_A_0 : W1.cell? ⟨w.heap.size, 0, none⟩ = some (.bool s2) := (HL_W1.out.cell (p := ⟨w.heap.size, 0, none⟩) hl_A).trans k_A_0
        replace k_A_1 : W1.cell? ⟨w.heap.size, 1, none⟩ = some (.slice a2 na2 ca2) := (HL_W1.out.cell (p := ⟨w.heap.size, 1, none⟩) hl_A).trans k_A_1
        replace k_A_2 : W1.cell? ⟨w.heap.size, 2, none⟩ = some (.slice d2 nd2 cd2) := (HL_W1.out.cell (p := ⟨w.heap.size, 2, none⟩) hl_A).trans k_A_2
        replace f_A : ∀ o, W1.frozen? ⟨w.heap.size, o, none⟩ = false := fun o => (HL_W1.out.frozen (p := ⟨w.heap.size, o, none⟩) hl_A).trans (f_A o)
        replace HX_A := Lib.hid (show Bn W1 (w.heap.size) by rw [← hW]; exact KpA)
        replace HB := Lib.hid (show Below w.heap.size w W1 by rw [← hW]; exact BlA)
        replace hN : N ≤ W1.heap.size := by rw [← hW]; (first | omega | (simp; done) | (simp; omega))
        replace hs0 : w.heap.size ≤ W1.heap.size := by rw [← hW]; (first | omega | (simp; done) | (simp; omega))
        replace hl_A : w.heap.size < W1.heap.size := by rw [← hW]; (first | omega | (simp; done) | (simp; omega))
        replace HAA := Lib.hid (HAA.out.below HL_W1.out)
        clear HL_W1
        clear hW
        refine (Share_any (N := N) _ _ _ _ _ _ _ L al _ hN HAA.out (by omega) false HPA.out).mono ?_
        rintro e wa ⟨rfl, hb⟩
        have hs_wa : W1.heap.size ≤ wa.heap.size := hb.size
        replace k_A_0 : wa.cell? ⟨w.heap.size, 0, none⟩ = some (.bool s2) := (hb.cell (p := ⟨w.heap.size, 0, none⟩) hl_A).trans k_A_0
        replace k_A_1 : wa.cell? ⟨w.heap.size, 1, none⟩ = some (.slice a2 na2 ca2) := (hb.cell (p := ⟨w.heap.size, 1, none⟩) hl_A).trans k_A_1
        replace k_A_2 : wa.cell? ⟨w.heap.size, 2, none⟩ = some (.slice d2 nd2 cd2) := (hb.cell (p := ⟨w.heap.size, 2, none⟩) hl_A).trans k_A_2
        replace f_A : ∀ o, wa.frozen? ⟨w.heap.size, o, none⟩ = false := fun o => (hb.frozen (p := ⟨w.heap.size, o, none⟩) hl_A).trans (f_A o)
        replace HX_A := Lib.hid (HX_A.out.below hb)
        replace HB := Lib.hid (HB.out.trans (hb.mono hs0))
        replace hN : N ≤ wa.heap.size := Nat.le_trans hN hb.size
        replace hs0 : w.heap.size ≤ wa.heap.size := Nat.le_trans hs0 hb.size
        replace hl_A : w.heap.size < wa.heap.size := Nat.lt_of_lt_of_le hl_A hb.size
        replace HAA := Lib.hid (HAA.out.below hb)
        clear hb
        go_wp2_with fail
        have ec : c = 3 := by rw [← HCC.out, if_neg (fun hh => absurd (hh.2.symm.trans HPA.out) (by decide))]
        go_ret
        exact ⟨by rw [ec]; rfl, HB.out⟩
set_option maxHeartbeats 4000000 in
theorem xpasses_any {N : Nat} (s s2 : Bool) (a d a2 d2 : Option Addr) (na ca nd cd na2 ca2 nd2 cd2 L n : Nat) (q al : Rat) (w : World) (hN : N ≤ w.heap.size) (h : Rt N w s a na ca d nd cd q L) (h2 : Rt N w s2 a2 na2 ca2 d2 nd2 cd2 al L) (hL : L ≤ 2097152) (hn : n ≤ 1000) (b : Bool) (hb : decide (q * ((n : Nat) : Rat) ≤ al) = b) :
    Calls Tryz.prog 37 #[.agg #[.bool s, .slice a na ca, .slice d nd cd], .int .i64 n, .agg #[.bool s2, .slice a2 na2 ca2, .slice d2 nd2 cd2]] w fun e w' => e = .returned (.bool b) ∧ Below w.heap.size w w' := by
  obtain ⟨x, hx⟩ : ∃ x : Rat, ((n : Nat) : Rat) = x := ⟨_, rfl⟩
  have HX := Lib.hid hx
  have HZ := Lib.hid (rsz_nat n (by omega) x hx)
  obtain ⟨y, hy⟩ : ∃ y : Rat, q * x = y := ⟨_, rfl⟩
  have HY := Lib.hid hy
  have HZ2 := Lib.hid (show rsz y ≤ L + 1 by have h1 := rsz_mul q x; have h2 := h.rsz_le; have h3 := HZ.out; rw [hy] at h1; omega)
  obtain ⟨κ, hκ⟩ : ∃ κ, cmpQ y al = κ := ⟨_, rfl⟩
  have HK := Lib.hid hκ
  have dk : decide (κ ≤ 0) = b := by rw [← hκ, cmp_le, ← hy, ← hx]; exact hb
  clear hx hy hκ hb
  have HR := Lib.hid h
  have HA := Lib.hid h2
  clear h h2
  have HB := Lib.hid (Below.refl w.heap.size w)
  go_enter Tryz.func37, Tryz.ntmps37
  go_wp2_with fail
  refine region_name fun W0 hW => ?_
  have hs_W0 : w.heap.size ≤ W0.heap.size := by rw [← hW]; (first | omega | (simp; done) | (simp; omega))
  have HK_W0 := Lib.hid (show Kp N w W0 by rw [← hW]; exact KpA)
  have k_P_0 : W0.cell? ⟨w.heap.size, 0, none⟩ = some (.bool s) := by rw [← hW]; (first | (go_simp; done) | (simp; done) | (simp [go_sem]; done) | (simp [go_sem]; done))
  have k_P_1 : W0.cell? ⟨w.heap.size, 1, none⟩ = some (.slice a na ca) := by rw [← hW]; (first | (go_simp; done) | (simp; done) | (simp [go_sem]; done) | (simp [go_sem]; done))
  have k_P_2 : W0.cell? ⟨w.heap.size, 2, none⟩ = some (.slice d nd cd) := by rw [← hW]; (first | (go_simp; done) | (simp; done) | (simp [go_sem]; done) | (simp [go_sem]; done))
  have f_P : ∀ o, W0.frozen? ⟨w.heap.size, o, none⟩ = false := by intro o; rw [← hW]; (first | (go_simp; done) | (simp; done) | (simp [go_sem]; done) | (simp [go_sem]; done))
  have HX_P := Lib.hid (show Bn W0 (w.heap.size) by rw [← hW]; exact KpA)
  have k_A_0 : W0.cell? ⟨w.heap.size + 1, 0, none⟩ = some (.bool s2) := by rw [← hW]; (first | (go_simp; done) | (simp; done) | (simp [go_sem]; done) | (simp [go_sem]; done))
  have k_A_1 : W0.cell? ⟨w.heap.size + 1, 1, none⟩ = some (.slice a2 na2 ca2) := by rw [← hW]; (first | (go_simp; done) | (simp; done) | (simp [go_sem]; done) | (simp [go_sem]; done))
  have k_A_2 : W0.cell? ⟨w.heap.size + 1, 2, none⟩ = some (.slice d2 nd2 cd2) := by rw [← hW]; (first | (go_simp; done) | (simp; done) | (simp [go_sem]; done) | (simp [go_sem]; done))
  have f_A : ∀ o, W0.frozen? ⟨w.heap.size + 1, o, none⟩ = false := by intro o; rw [← hW]; (first | (go_simp; done) | (simp; done) | (simp [go_sem]; done) | (simp [go_sem]; done))
  have HX_A := Lib.hid (show Bn W0 (w.heap.size + 1) by rw [← hW]; exact KpA)
  replace HR := Lib.hid (HR.out.keep HK_W0.out)
  replace HA := Lib.hid (HA.out.keep HK_W0.out)
  replace HB := Lib.hid (show Below w.heap.size w W0 by rw [← hW]; exact BlA)
  replace hN : N ≤ W0.heap.size := by rw [← hW]; (first | omega | (simp; done) | (simp; omega))
  have hs0 : w.heap.size ≤ W0.heap.size := by rw [← hW]; (first | omega | (simp; done) | (simp; omega))
  have hl_P : w.heap.size < W0.heap.size := by rw [← hW]; (first | omega | (simp; done) | (simp; omega))
  have hl_A : w.heap.size + 1 < W0.heap.size := by rw [← hW]; (first | omega | (simp; done) | (simp; omega))
  clear hW HK_W0
  go_region_held3 (fun w' => w'.cell? ⟨w.heap.size, 0, none⟩ = some (.bool s) ∧ w'.cell? ⟨w.heap.size, 1, none⟩ = some (.slice a na ca) ∧ w'.cell? ⟨w.heap.size, 2, none⟩ = some (.slice d nd cd) ∧ w'.cell? ⟨w.heap.size + 1, 0, none⟩ = some (.bool s2) ∧ w'.cell? ⟨w.heap.size + 1, 1, none⟩ = some (.slice a2 na2 ca2) ∧ w'.cell? ⟨w.heap.size + 1, 2, none⟩ = some (.slice d2 nd2 cd2))
    (first | (go_keep; done) | ((try dsimp only); (repeat' apply And.intro) <;> (first | (go_keep; done) | (exact cell_keep_alloc_drew (by first | omega | (simp; omega)) (by first | assumption | go_simp)) | (exact cell_keep_alloc (by first | omega | (simp; omega)) (by first | assumption | go_simp)) | (rw [cell_set2 _ _ _ _ _ _ _ _ (by omega)]; assumption) | (rw [cell_set3 _ _ _ _ _ _ _ _ _ _ (by omega)]; assumption))))
    (first
      | (go_at_call 54; refine (Whole_z (N := N) n n rfl _ (by exact hN) (by omega) x HX.out).mono ?_; rintro e wa ⟨rx, cx, rx2, cx2, rfl, hn, hn', hb⟩; replace hb : Below W0.heap.size W0 wa := (by first | exact hb | exact bel_of_drew hb); have hs_wa : W0.heap.size ≤ wa.heap.size := hb.size; replace k_P_0 : wa.cell? ⟨w.heap.size, 0, none⟩ = some (.bool s) := (hb.cell (p := ⟨w.heap.size, 0, none⟩) hl_P).trans k_P_0; replace k_P_1 : wa.cell? ⟨w.heap.size, 1, none⟩ = some (.slice a na ca) := (hb.cell (p := ⟨w.heap.size, 1, none⟩) hl_P).trans k_P_1; replace k_P_2 : wa.cell? ⟨w.heap.size, 2, none⟩ = some (.slice d nd cd) := (hb.cell (p := ⟨w.heap.size, 2, none⟩) hl_P).trans k_P_2; replace f_P : ∀ o, wa.frozen? ⟨w.heap.size, o, none⟩ = false := fun o => (hb.frozen (p := ⟨w.heap.size, o, none⟩) hl_P).trans (f_P o); replace HX_P := Lib.hid (HX_P.out.below hb); replace k_A_0 : wa.cell? ⟨w.heap.size + 1, 0, none⟩ = some (.bool s2) := (hb.cell (p := ⟨w.heap.size + 1, 0, none⟩) hl_A).trans k_A_0; replace k_A_1 : wa.cell? ⟨w.heap.size + 1, 1, none⟩ = some (.slice a2 na2 ca2) := (hb.cell (p := ⟨w.heap.size + 1, 1, none⟩) hl_A).trans k_A_1; replace k_A_2 : wa.cell? ⟨w.heap.size + 1, 2, none⟩ = some (.slice d2 nd2 cd2) := (hb.cell (p := ⟨w.heap.size + 1, 2, none⟩) hl_A).trans k_A_2; replace f_A : ∀ o, wa.frozen? ⟨w.heap.size + 1, o, none⟩ = false := fun o => (hb.frozen (p := ⟨w.heap.size + 1, o, none⟩) hl_A).trans (f_A o); replace HX_A := Lib.hid (HX_A.out.below hb); replace HR := Lib.hid (HR.out.below hb); replace HA := Lib.hid (HA.out.below hb); replace HB := Lib.hid (HB.out.trans (hb.mono hs0)); replace hN : N ≤ wa.heap.size := Nat.le_trans hN hb.size; replace hs0 : w.heap.size ≤ wa.heap.size := Nat.le_trans hs0 hb.size; replace hl_P : w.heap.size < wa.heap.size := Nat.lt_of_lt_of_le hl_P hb.size; replace hl_A : w.heap.size + 1 < wa.heap.size := Nat.lt_of_lt_of_le hl_A hb.size; clear hb; have HX1 := Lib.hid hn; clear hn; have HX2 := Lib.hid hn'; clear hn'; skip)
      | (go_at_call 70; refine (xrmul_any (N := N) _ _ _ _ _ _ _ _ _ _ _ _ _ _ L 1 q x _ (by exact hN) (by exact HR.out) (by exact Rt.of_norm HX1.out HX2.out 1 HZ.out) (by omega) (by omega) y HY.out).mono ?_; rintro e wb ⟨ry, cy, ry2, cy2, rfl, hn, hn', hb⟩; replace hb : Below wa.heap.size wa wb := (by first | exact hb | exact bel_of_drew hb); have hs_wb : wa.heap.size ≤ wb.heap.size := hb.size; replace k_P_0 : wb.cell? ⟨w.heap.size, 0, none⟩ = some (.bool s) := (hb.cell (p := ⟨w.heap.size, 0, none⟩) hl_P).trans k_P_0; replace k_P_1 : wb.cell? ⟨w.heap.size, 1, none⟩ = some (.slice a na ca) := (hb.cell (p := ⟨w.heap.size, 1, none⟩) hl_P).trans k_P_1; replace k_P_2 : wb.cell? ⟨w.heap.size, 2, none⟩ = some (.slice d nd cd) := (hb.cell (p := ⟨w.heap.size, 2, none⟩) hl_P).trans k_P_2; replace f_P : ∀ o, wb.frozen? ⟨w.heap.size, o, none⟩ = false := fun o => (hb.frozen (p := ⟨w.heap.size, o, none⟩) hl_P).trans (f_P o); replace HX_P := Lib.hid (HX_P.out.below hb); replace k_A_0 : wb.cell? ⟨w.heap.size + 1, 0, none⟩ = some (.bool s2) := (hb.cell (p := ⟨w.heap.size + 1, 0, none⟩) hl_A).trans k_A_0; replace k_A_1 : wb.cell? ⟨w.heap.size + 1, 1, none⟩ = some (.slice a2 na2 ca2) := (hb.cell (p := ⟨w.heap.size + 1, 1, none⟩) hl_A).trans k_A_1; replace k_A_2 : wb.cell? ⟨w.heap.size + 1, 2, none⟩ = some (.slice d2 nd2 cd2) := (hb.cell (p := ⟨w.heap.size + 1, 2, none⟩) hl_A).trans k_A_2; replace f_A : ∀ o, wb.frozen? ⟨w.heap.size + 1, o, none⟩ = false := fun o => (hb.frozen (p := ⟨w.heap.size + 1, o, none⟩) hl_A).trans (f_A o); replace HX_A := Lib.hid (HX_A.out.below hb); replace HR := Lib.hid (HR.out.below hb); replace HA := Lib.hid (HA.out.below hb); replace HX1 := Lib.hid (HX1.out.below hb); replace HX2 := Lib.hid (HX2.out.below hb); replace HB := Lib.hid (HB.out.trans (hb.mono hs0)); replace hN : N ≤ wb.heap.size := Nat.le_trans hN hb.size; replace hs0 : w.heap.size ≤ wb.heap.size := Nat.le_trans hs0 hb.size; replace hl_P : w.heap.size < wb.heap.size := Nat.lt_of_lt_of_le hl_P hb.size; replace hl_A : w.heap.size + 1 < wb.heap.size := Nat.lt_of_lt_of_le hl_A hb.size; clear hb; have HY1 := Lib.hid hn; clear hn; have HY2 := Lib.hid hn'; clear hn'; skip)
      | (go_at_call 55; refine (xrcmp_any (N := N) _ _ _ _ _ _ _ _ _ _ _ _ _ _ (L + 1) L y al _ (by exact hN) (by exact Rt.of_norm HY1.out HY2.out (L + 1) HZ2.out) (by exact HA.out) (by omega) (by omega)).mono ?_; rw [HK.out]; rintro e wc ⟨rfl, hb⟩; replace hb : Below wb.heap.size wb wc := (by first | exact hb | exact bel_of_drew hb); have hs_wc : wb.heap.size ≤ wc.heap.size := hb.size; replace k_P_0 : wc.cell? ⟨w.heap.size, 0, none⟩ = some (.bool s) := (hb.cell (p := ⟨w.heap.size, 0, none⟩) hl_P).trans k_P_0; replace k_P_1 : wc.cell? ⟨w.heap.size, 1, none⟩ = some (.slice a na ca) := (hb.cell (p := ⟨w.heap.size, 1, none⟩) hl_P).trans k_P_1; replace k_P_2 : wc.cell? ⟨w.heap.size, 2, none⟩ = some (.slice d nd cd) := (hb.cell (p := ⟨w.heap.size, 2, none⟩) hl_P).trans k_P_2; replace f_P : ∀ o, wc.frozen? ⟨w.heap.size, o, none⟩ = false := fun o => (hb.frozen (p := ⟨w.heap.size, o, none⟩) hl_P).trans (f_P o); replace HX_P := Lib.hid (HX_P.out.below hb); replace k_A_0 : wc.cell? ⟨w.heap.size + 1, 0, none⟩ = some (.bool s2) := (hb.cell (p := ⟨w.heap.size + 1, 0, none⟩) hl_A).trans k_A_0; replace k_A_1 : wc.cell? ⟨w.heap.size + 1, 1, none⟩ = some (.slice a2 na2 ca2) := (hb.cell (p := ⟨w.heap.size + 1, 1, none⟩) hl_A).trans k_A_1; replace k_A_2 : wc.cell? ⟨w.heap.size + 1, 2, none⟩ = some (.slice d2 nd2 cd2) := (hb.cell (p := ⟨w.heap.size + 1, 2, none⟩) hl_A).trans k_A_2; replace f_A : ∀ o, wc.frozen? ⟨w.heap.size + 1, o, none⟩ = false := fun o => (hb.frozen (p := ⟨w.heap.size + 1, o, none⟩) hl_A).trans (f_A o); replace HX_A := Lib.hid (HX_A.out.below hb); replace HR := Lib.hid (HR.out.below hb); replace HA := Lib.hid (HA.out.below hb); replace HX1 := Lib.hid (HX1.out.below hb); replace HX2 := Lib.hid (HX2.out.below hb); replace HY1 := Lib.hid (HY1.out.below hb); replace HY2 := Lib.hid (HY2.out.below hb); replace HB := Lib.hid (HB.out.trans (hb.mono hs0)); replace hN : N ≤ wc.heap.size := Nat.le_trans hN hb.size; replace hs0 : w.heap.size ≤ wc.heap.size := Nat.le_trans hs0 hb.size; replace hl_P : w.heap.size < wc.heap.size := Nat.lt_of_lt_of_le hl_P hb.size; replace hl_A : w.heap.size + 1 < wc.heap.size := Nat.lt_of_lt_of_le hl_A hb.size; clear hb; skip))
  go_wp2_with fail
  go_ret
  exact ⟨rfl, HB.out⟩
end Go.Proofs.YtnillajhhimeiaaGreatDoor
