/- Contracts of matrix.Valid and of the reference's (chapter 24), for items of two categories each. No condition. -/
import Derived.Test.YtmecipfdelgfbaaDoorClsB
import Derived.Test.YtmecipfdelgfbaaDoorAl
namespace Go.Proofs.YtmecipfdelgfbaaDoor
open Go.RowKit

/-- from 1 on, and rising -/
def risP (z : Nat → Int) (n : Nat) : Prop := ∀ i, i < n → 1 ≤ z i ∧ (0 < i → z (i - 1) < z i)
open Classical in
noncomputable def risB (z : Nat → Int) (n : Nat) : Bool := decide (risP z n)
theorem risB_true {z : Nat → Int} {n : Nat} : risB z n = true ↔ risP z n := by simp [risB]
theorem risB_no {z : Nat → Int} {n k : Nat} (hk : k < n) (h : ¬ (1 ≤ z k ∧ (0 < k → z (k - 1) < z k))) : risB z n = false := by
  cases e : risB z n
  · rfl
  · exact absurd (risB_true.1 e k hk) h
theorem all_lt_succ {Q : Nat → Prop} {k : Nat} (h : ∀ j, j < k → Q j) (hk : Q k) : ∀ j, j < k + 1 → Q j := fun j hj => by
  by_cases e : j = k
  · subst e; exact hk
  · exact h j (by omega)
def shpB (P I R : Nat) (rn : Nat → Nat) : Bool := decide (R = P ∧ ∀ k, k < R → rn k = I)
theorem shpB_true {P I R : Nat} {rn : Nat → Nat} : shpB P I R rn = true ↔ (R = P ∧ ∀ k, k < R → rn k = I) := by unfold shpB; exact decide_eq_true_iff
theorem shpB_false {P I R : Nat} {rn : Nat → Nat} (h : ¬ (R = P ∧ ∀ k, k < R → rn k = I)) : shpB P I R rn = false := by
  cases e : shpB P I R rn
  · rfl
  · exact absurd (shpB_true.1 e) h
/-- a matrix of right and wrong responses -/
def GdM (P I R : Nat) (zp zi : Nat → Int) (rn : Nat → Nat) (z : Nat → Nat → Int) : Prop :=
  P ≤ 200 ∧ I ≤ 60 ∧ risP zp P ∧ risP zi I ∧ R = P ∧ (∀ k, k < R → rn k = I) ∧ ∀ k, k < R → ∀ j, j < I → -2 ≤ z k j ∧ z k j ≤ 1
theorem block_nameM {P : Program} {Q : Exit → Act → World → Prop} {c : Code} {a : Act} {w : World} (h : ∀ W, w = W → c.wp P Q a W) : c.wp P Q a w := h w rfl

set_option maxHeartbeats 2000000 in
theorem mrising_any (a : Option Addr) (n cap : Nat) (z : Nat → Int) (w : World) (h : Is w a n cap z) :
    Calls Tryd.prog 77 #[.slice a n cap, .int .i64 1] w fun e w' => e = .returned (.bool (risB z n)) ∧ Below w.heap.size w w' := by
  have HA := Lib.hid h
  have bc := h.1
  have bm := h.2.1
  unfold maxLen at bm
  clear h
  go_enter Tryd.func77, Tryd.ntmps77
  go_wp2_with fail
  go_loop [9] (fun i => ∃ k : Nat, k ≤ n ∧ i = .int .i64 k ∧ Hid (∀ j, j < k → 1 ≤ z j ∧ (0 < j → z (j - 1) < z j))) (fun i => n - (intOf i).toNat)
  case atStart => exact ⟨0, Nat.zero_le _, rfl, Lib.hid (fun j hj => by omega)⟩
  case round =>
    obtain ⟨k, hk, rfl, hin⟩ := hrel
    by_cases hkn : k < n
    · obtain ⟨b, off, rfl, hc⟩ := HA.out.2.2 (by omega)
      have hcell := hc k hkn
      have HC := Lib.hid hc
      obtain ⟨v, hv⟩ : ∃ v, z k = v := ⟨_, rfl⟩
      rw [hv] at hcell
      have HV := Lib.hid hv
      clear hc hv
      have hix0 : (0 : Int) ≤ (k : Int) := by omega
      have hix1 : (k : Int) < (n : Int) := by omega
      by_cases h1 : v < 1
      · have HE := Lib.hid (show risB z n = false from risB_no hkn (fun hh => by have h3 := hh.1; rw [HV.out] at h3; omega))
        go_wp2_with fail
        go_ret
        rw [HE.out]
        exact ⟨rfl, Below.refl _ _⟩
      · by_cases hk0 : k = 0
        · subst hk0
          rw [Nat.add_zero] at hcell
          have HIN := Lib.hid (all_lt_succ hin.out (show 1 ≤ z 0 ∧ (0 < 0 → z (0 - 1) < z 0) from ⟨by rw [HV.out]; omega, fun h => by omega⟩))
          go_wp2_with fail
          go_round
          case rel => exact ⟨0 + 1, by omega, by go_num, HIN⟩
          case measure => simp [intOf]; omega
        · obtain ⟨m, hm⟩ : ∃ m, k = m + 1 := ⟨k - 1, by omega⟩
          have hcell2 := HC.out m (by omega)
          obtain ⟨u, hu⟩ : ∃ u, z m = u := ⟨_, rfl⟩
          rw [hu] at hcell2
          have HU := Lib.hid (show z (k - 1) = u by rw [show k - 1 = m by omega]; exact hu)
          have e1 : (k : Int) - 1 = (m : Int) := by omega
          have hm0 : (0 : Int) ≤ (m : Int) := by omega
          have hm1 : (m : Int) < (n : Int) := by omega
          have hk0 : (0 : Int) < (k : Int) := by omega
          clear hm hu
          by_cases h2 : v ≤ u
          · have HE := Lib.hid (show risB z n = false from risB_no hkn (fun hh => by have h3 := hh.2 (by omega); rw [HV.out, HU.out] at h3; omega))
            go_wp2_with fail
            go_ret
            rw [HE.out]
            exact ⟨rfl, Below.refl _ _⟩
          · have HIN := Lib.hid (all_lt_succ hin.out (show 1 ≤ z k ∧ (0 < k → z (k - 1) < z k) from ⟨by rw [HV.out]; omega, fun _ => by rw [HV.out, HU.out]; omega⟩))
            go_wp2_with fail
            go_round
            case rel => exact ⟨k + 1, by omega, by go_num, HIN⟩
            case measure => simp [intOf]; omega
    · obtain rfl : k = n := by omega
      have HE := Lib.hid (show risB z k = true from risB_true.2 hin.out)
      go_wp2_with fail
      go_ret
      rw [HE.out]
      exact ⟨rfl, Below.refl _ _⟩

set_option maxHeartbeats 2000000 in
theorem xrising_any (a : Option Addr) (n cap : Nat) (z : Nat → Int) (w : World) (h : Is w a n cap z) :
    Calls Tryd.prog 49 #[.slice a n cap] w fun e w' => e = .returned (.bool (risB z n)) ∧ Below w.heap.size w w' := by
  have HA := Lib.hid h
  have bc := h.1
  have bm := h.2.1
  unfold maxLen at bm
  clear h
  go_enter Tryd.func49, Tryd.ntmps49
  go_wp2_with fail
  go_loop [7] (fun i => ∃ k : Nat, k ≤ n ∧ i = .int .i64 k ∧ Hid (∀ j, j < k → 1 ≤ z j ∧ (0 < j → z (j - 1) < z j))) (fun i => n - (intOf i).toNat)
  case atStart => exact ⟨0, Nat.zero_le _, rfl, Lib.hid (fun j hj => by omega)⟩
  case round =>
    obtain ⟨k, hk, rfl, hin⟩ := hrel
    by_cases hkn : k < n
    · obtain ⟨b, off, rfl, hc⟩ := HA.out.2.2 (by omega)
      have hcell := hc k hkn
      have HC := Lib.hid hc
      obtain ⟨v, hv⟩ : ∃ v, z k = v := ⟨_, rfl⟩
      rw [hv] at hcell
      have HV := Lib.hid hv
      clear hc hv
      have hix0 : (0 : Int) ≤ (k : Int) := by omega
      have hix1 : (k : Int) < (n : Int) := by omega
      by_cases h1 : v < 1
      · have HE := Lib.hid (show risB z n = false from risB_no hkn (fun hh => by have h3 := hh.1; rw [HV.out] at h3; omega))
        go_wp2_with fail
        go_ret
        rw [HE.out]
        exact ⟨rfl, Below.refl _ _⟩
      · by_cases hk0 : k = 0
        · subst hk0
          rw [Nat.add_zero] at hcell
          have HIN := Lib.hid (all_lt_succ hin.out (show 1 ≤ z 0 ∧ (0 < 0 → z (0 - 1) < z 0) from ⟨by rw [HV.out]; omega, fun h => by omega⟩))
          go_wp2_with fail
          go_round
          case rel => exact ⟨0 + 1, by omega, by go_num, HIN⟩
          case measure => simp [intOf]; omega
        · obtain ⟨m, hm⟩ : ∃ m, k = m + 1 := ⟨k - 1, by omega⟩
          have hcell2 := HC.out m (by omega)
          obtain ⟨u, hu⟩ : ∃ u, z m = u := ⟨_, rfl⟩
          rw [hu] at hcell2
          have HU := Lib.hid (show z (k - 1) = u by rw [show k - 1 = m by omega]; exact hu)
          have e1 : (k : Int) - 1 = (m : Int) := by omega
          have hm0 : (0 : Int) ≤ (m : Int) := by omega
          have hm1 : (m : Int) < (n : Int) := by omega
          have hk0 : (0 : Int) < (k : Int) := by omega
          clear hm hu
          by_cases h2 : v ≤ u
          · have HE := Lib.hid (show risB z n = false from risB_no hkn (fun hh => by have h3 := hh.2 (by omega); rw [HV.out, HU.out] at h3; omega))
            go_wp2_with fail
            go_ret
            rw [HE.out]
            exact ⟨rfl, Below.refl _ _⟩
          · have HIN := Lib.hid (all_lt_succ hin.out (show 1 ≤ z k ∧ (0 < k → z (k - 1) < z k) from ⟨by rw [HV.out]; omega, fun _ => by rw [HV.out, HU.out]; omega⟩))
            go_wp2_with fail
            go_round
            case rel => exact ⟨k + 1, by omega, by go_num, HIN⟩
            case measure => simp [intOf]; omega
    · obtain rfl : k = n := by omega
      have HE := Lib.hid (show risB z k = true from risB_true.2 hin.out)
      go_wp2_with fail
      go_ret
      rw [HE.out]
      exact ⟨rfl, Below.refl _ _⟩

set_option maxHeartbeats 1000000 in
theorem mordered_any (pa ia ca : Option Addr) (P pc I ic R cc : Nat) (zp zi : Nat → Int) (ra : Nat → Option Addr) (rn rc : Nat → Nat) (z : Nat → Nat → Int) (w : World) (hp : Is w pa P pc zp) (hi : Is w ia I ic zi) (hc : Rw w ca R cc ra rn rc z) :
    Calls Tryd.prog 62 #[.agg #[.slice pa P pc, .slice ia I ic, .slice ca R cc]] w fun e w' => e = .returned (.bool (risB zp P && risB zi I)) ∧ Below w.heap.size w w' := by
  have HP := Lib.hid hp
  have HI := Lib.hid hi
  have HC := Lib.hid hc
  have b1 := hp.1
  have b2 := hp.2.1
  have b3 := hi.1
  have b4 := hi.2.1
  have b5 := hc.1
  have b6 := hc.2.1
  unfold maxLen at b2 b4 b6
  clear hp hi hc
  have HB := Lib.hid (Below.refl w.heap.size w)
  rcases Bool.eq_false_or_eq_true (risB zp P) with e1 | e1
  · have E1 := Lib.hid e1
    rw [e1]
    clear e1
    go_enter Tryd.func62, Tryd.ntmps62
    go_wp2_with fail
    refine calls_name fun W0 hW => ?_
    have hs_W0 : w.heap.size ≤ W0.heap.size := by rw [← hW]; (first | omega | (simp; done) | (simp; omega))
    have HL_W0 := Lib.hid (show Below w.heap.size w W0 by rw [← hW]; exact BlA)
    have k_M_0 : W0.cell? ⟨w.heap.size, 0, none⟩ = some (.slice pa P pc) := by rw [← hW]; (first | (go_simp; done) | (simp; done) | (simp [go_sem]; done) | (simp [go_sem]; done))
    have k_M_1 : W0.cell? ⟨w.heap.size, 1, none⟩ = some (.slice ia I ic) := by rw [← hW]; (first | (go_simp; done) | (simp; done) | (simp [go_sem]; done) | (simp [go_sem]; done))
    have k_M_2 : W0.cell? ⟨w.heap.size, 2, none⟩ = some (.slice ca R cc) := by rw [← hW]; (first | (go_simp; done) | (simp; done) | (simp [go_sem]; done) | (simp [go_sem]; done))
    have f_M : ∀ o, W0.frozen? ⟨w.heap.size, o, none⟩ = false := by intro o; rw [← hW]; (first | (go_simp; done) | (simp; done) | (simp [go_sem]; done) | (simp [go_sem]; done))
    have HX_M := Lib.hid (show Bn W0 (w.heap.size) by rw [← hW]; exact KpA)
    replace HB := Lib.hid (show Below w.heap.size w W0 by rw [← hW]; exact BlA)
    have hs0 : w.heap.size ≤ W0.heap.size := by rw [← hW]; (first | omega | (simp; done) | (simp; omega))
    have hl_M : w.heap.size < W0.heap.size := by rw [← hW]; (first | omega | (simp; done) | (simp; omega))
    replace HP := Lib.hid (HP.out.below HL_W0.out)
    replace HI := Lib.hid (HI.out.below HL_W0.out)
    replace HC := Lib.hid (HC.out.below HL_W0.out)
    clear HL_W0
    clear hW
    refine (mrising_any _ _ _ _ _ HP.out).mono ?_
    rw [E1.out]
    rintro e wa ⟨rfl, hb⟩
    have hs_wa : W0.heap.size ≤ wa.heap.size := hb.size
    replace k_M_0 : wa.cell? ⟨w.heap.size, 0, none⟩ = some (.slice pa P pc) := (hb.cell (p := ⟨w.heap.size, 0, none⟩) hl_M).trans k_M_0
    replace k_M_1 : wa.cell? ⟨w.heap.size, 1, none⟩ = some (.slice ia I ic) := (hb.cell (p := ⟨w.heap.size, 1, none⟩) hl_M).trans k_M_1
    replace k_M_2 : wa.cell? ⟨w.heap.size, 2, none⟩ = some (.slice ca R cc) := (hb.cell (p := ⟨w.heap.size, 2, none⟩) hl_M).trans k_M_2
    replace f_M : ∀ o, wa.frozen? ⟨w.heap.size, o, none⟩ = false := fun o => (hb.frozen (p := ⟨w.heap.size, o, none⟩) hl_M).trans (f_M o)
    replace HX_M := Lib.hid (HX_M.out.below hb)
    replace HB := Lib.hid (HB.out.trans (hb.mono hs0))
    replace hs0 : w.heap.size ≤ wa.heap.size := Nat.le_trans hs0 hb.size
    replace hl_M : w.heap.size < wa.heap.size := Nat.lt_of_lt_of_le hl_M hb.size
    replace HP := Lib.hid (HP.out.below hb)
    replace HI := Lib.hid (HI.out.below hb)
    replace HC := Lib.hid (HC.out.below hb)
    clear hb
    go_wp2_with fail
    refine calls_name fun W1 hW => ?_
    have HL_W1 := Lib.hid (show Below wa.heap.size wa W1 by rw [← hW]; exact BlA)
    have hs_W1 : wa.heap.size ≤ W1.heap.size := by rw [← hW]; (first | omega | (simp; done) | (simp; omega))
    replace k_M_0 : W1.cell? ⟨w.heap.size, 0, none⟩ = some (.slice pa P pc) := (HL_W1.out.cell (p := ⟨w.heap.size, 0, none⟩) hl_M).trans k_M_0
    replace k_M_1 : W1.cell? ⟨w.heap.size, 1, none⟩ = some (.slice ia I ic) := (HL_W1.out.cell (p := ⟨w.heap.size, 1, none⟩) hl_M).trans k_M_1
    replace k_M_2 : W1.cell? ⟨w.heap.size, 2, none⟩ = some (.slice ca R cc) := (HL_W1.out.cell (p := ⟨w.heap.size, 2, none⟩) hl_M).trans k_M_2
    replace f_M : ∀ o, W1.frozen? ⟨w.heap.size, o, none⟩ = false := fun o => (HL_W1.out.frozen (p := ⟨w.heap.size, o, none⟩) hl_M).trans (f_M o)
    replace HX_M := Lib.hid (show Bn W1 (w.heap.size) by rw [← hW]; exact KpA)
    replace HB := Lib.hid (show Below w.heap.size w W1 by rw [← hW]; exact BlA)
    replace hs0 : w.heap.size ≤ W1.heap.size := by rw [← hW]; (first | omega | (simp; done) | (simp; omega))
    replace hl_M : w.heap.size < W1.heap.size := by rw [← hW]; (first | omega | (simp; done) | (simp; omega))
    replace HP := Lib.hid (HP.out.below HL_W1.out)
    replace HI := Lib.hid (HI.out.below HL_W1.out)
    replace HC := Lib.hid (HC.out.below HL_W1.out)
    clear HL_W1
    clear hW
    refine (mrising_any _ _ _ _ _ HI.out).mono ?_
    rintro e wb ⟨rfl, hb⟩
    have hs_wb : W1.heap.size ≤ wb.heap.size := hb.size
    replace k_M_0 : wb.cell? ⟨w.heap.size, 0, none⟩ = some (.slice pa P pc) := (hb.cell (p := ⟨w.heap.size, 0, none⟩) hl_M).trans k_M_0
    replace k_M_1 : wb.cell? ⟨w.heap.size, 1, none⟩ = some (.slice ia I ic) := (hb.cell (p := ⟨w.heap.size, 1, none⟩) hl_M).trans k_M_1
    replace k_M_2 : wb.cell? ⟨w.heap.size, 2, none⟩ = some (.slice ca R cc) := (hb.cell (p := ⟨w.heap.size, 2, none⟩) hl_M).trans k_M_2
    replace f_M : ∀ o, wb.frozen? ⟨w.heap.size, o, none⟩ = false := fun o => (hb.frozen (p := ⟨w.heap.size, o, none⟩) hl_M).trans (f_M o)
    replace HX_M := Lib.hid (HX_M.out.below hb)
    replace HB := Lib.hid (HB.out.trans (hb.mono hs0))
    replace hs0 : w.heap.size ≤ wb.heap.size := Nat.le_trans hs0 hb.size
    replace hl_M : w.heap.size < wb.heap.size := Nat.lt_of_lt_of_le hl_M hb.size
    replace HP := Lib.hid (HP.out.below hb)
    replace HI := Lib.hid (HI.out.below hb)
    replace HC := Lib.hid (HC.out.below hb)
    clear hb
    go_wp2_with fail
    go_ret
    exact ⟨by simp, HB.out⟩
  · have E1 := Lib.hid e1
    rw [e1]
    clear e1
    go_enter Tryd.func62, Tryd.ntmps62
    go_wp2_with fail
    refine calls_name fun W0 hW => ?_
    have hs_W0 : w.heap.size ≤ W0.heap.size := by rw [← hW]; (first | omega | (simp; done) | (simp; omega))
    have HL_W0 := Lib.hid (show Below w.heap.size w W0 by rw [← hW]; exact BlA)
    have k_M_0 : W0.cell? ⟨w.heap.size, 0, none⟩ = some (.slice pa P pc) := by rw [← hW]; (first | (go_simp; done) | (simp; done) | (simp [go_sem]; done) | (simp [go_sem]; done))
    have k_M_1 : W0.cell? ⟨w.heap.size, 1, none⟩ = some (.slice ia I ic) := by rw [← hW]; (first | (go_simp; done) | (simp; done) | (simp [go_sem]; done) | (simp [go_sem]; done))
    have k_M_2 : W0.cell? ⟨w.heap.size, 2, none⟩ = some (.slice ca R cc) := by rw [← hW]; (first | (go_simp; done) | (simp; done) | (simp [go_sem]; done) | (simp [go_sem]; done))
    have f_M : ∀ o, W0.frozen? ⟨w.heap.size, o, none⟩ = false := by intro o; rw [← hW]; (first | (go_simp; done) | (simp; done) | (simp [go_sem]; done) | (simp [go_sem]; done))
    have HX_M := Lib.hid (show Bn W0 (w.heap.size) by rw [← hW]; exact KpA)
    replace HB := Lib.hid (show Below w.heap.size w W0 by rw [← hW]; exact BlA)
    have hs0 : w.heap.size ≤ W0.heap.size := by rw [← hW]; (first | omega | (simp; done) | (simp; omega))
    have hl_M : w.heap.size < W0.heap.size := by rw [← hW]; (first | omega | (simp; done) | (simp; omega))
    replace HP := Lib.hid (HP.out.below HL_W0.out)
    replace HI := Lib.hid (HI.out.below HL_W0.out)
    replace HC := Lib.hid (HC.out.below HL_W0.out)
    clear HL_W0
    clear hW
    refine (mrising_any _ _ _ _ _ HP.out).mono ?_
    rw [E1.out]
    rintro e wa ⟨rfl, hb⟩
    have hs_wa : W0.heap.size ≤ wa.heap.size := hb.size
    replace k_M_0 : wa.cell? ⟨w.heap.size, 0, none⟩ = some (.slice pa P pc) := (hb.cell (p := ⟨w.heap.size, 0, none⟩) hl_M).trans k_M_0
    replace k_M_1 : wa.cell? ⟨w.heap.size, 1, none⟩ = some (.slice ia I ic) := (hb.cell (p := ⟨w.heap.size, 1, none⟩) hl_M).trans k_M_1
    replace k_M_2 : wa.cell? ⟨w.heap.size, 2, none⟩ = some (.slice ca R cc) := (hb.cell (p := ⟨w.heap.size, 2, none⟩) hl_M).trans k_M_2
    replace f_M : ∀ o, wa.frozen? ⟨w.heap.size, o, none⟩ = false := fun o => (hb.frozen (p := ⟨w.heap.size, o, none⟩) hl_M).trans (f_M o)
    replace HX_M := Lib.hid (HX_M.out.below hb)
    replace HB := Lib.hid (HB.out.trans (hb.mono hs0))
    replace hs0 : w.heap.size ≤ wa.heap.size := Nat.le_trans hs0 hb.size
    replace hl_M : w.heap.size < wa.heap.size := Nat.lt_of_lt_of_le hl_M hb.size
    replace HP := Lib.hid (HP.out.below hb)
    replace HI := Lib.hid (HI.out.below hb)
    replace HC := Lib.hid (HC.out.below hb)
    clear hb
    go_wp2_with fail
    go_ret
    exact ⟨by simp, HB.out⟩

set_option maxRecDepth 20000 in
set_option maxHeartbeats 2000000 in
theorem mshaped_any (pa ia ca : Option Addr) (P pc I ic R cc : Nat) (zp zi : Nat → Int) (ra : Nat → Option Addr) (rn rc : Nat → Nat) (z : Nat → Nat → Int) (w : World) (hp : Is w pa P pc zp) (hi : Is w ia I ic zi) (hc : Rw w ca R cc ra rn rc z) :
    Calls Tryd.prog 63 #[.agg #[.slice pa P pc, .slice ia I ic, .slice ca R cc]] w fun e w' => e = .returned (.bool (shpB P I R rn)) ∧ Below w.heap.size w w' := by
  have HP := Lib.hid hp
  have HI := Lib.hid hi
  have HC := Lib.hid hc
  have b1 := hp.1
  have b2 := hp.2.1
  have b3 := hi.1
  have b4 := hi.2.1
  have b5 := hc.1
  have b6 := hc.2.1
  unfold maxLen at b2 b4 b6
  clear hp hi hc
  by_cases hRP : R = P
  · subst hRP
    go_enter Tryd.func63, Tryd.ntmps63
    go_wp2_with fail
    go_loopw [15] (fun i wr => ∃ k : Nat, k ≤ R ∧ i = .int .i64 k ∧ Hid (∀ j, j < k → rn j = I) ∧ (w.alloc (.cells #[.slice pa R pc, .slice ia I ic, .slice ca R cc] 43)) = wr) (fun i _ => R - (intOf i).toNat)
    case atStart => exact ⟨0, Nat.zero_le _, rfl, Lib.hid (fun j hj => by omega), rfl⟩
    case round =>
      obtain ⟨k, hk, rfl, hin, rfl⟩ := hrel
      by_cases hkn : k < R
      · obtain ⟨b, off, rfl, hcc⟩ := (HC.out.alloc (.cells #[.slice pa R pc, .slice ia I ic, .slice ca R cc] 43)).2.2 (by omega)
        obtain ⟨hcell, hrow⟩ := hcc k hkn
        have r1 := hrow.1
        have r2 := hrow.2.1
        unfold maxLen at r2
        obtain ⟨l, hl⟩ : ∃ l, rn k = l := ⟨_, rfl⟩
        rw [hl] at hcell r1
        have HL := Lib.hid hl
        clear hcc hrow hl
        have hix0 : (0 : Int) ≤ (k : Int) := by omega
        have hix1 : (k : Int) < (R : Int) := by omega
        by_cases hlI : l = I
        · subst hlI
          have HIN := Lib.hid (all_lt_succ hin.out (show rn k = l from HL.out))
          go_wp2_with fail
          go_roundw
          case rel => exact ⟨k + 1, by omega, by go_num, HIN, by first | rfl | trivial⟩
          case measure => simp [intOf]; omega
        · have d1 : ¬ (l : Int) = (I : Int) := by omega
          have HE := Lib.hid (show shpB R I R rn = false from shpB_false (fun hh => hlI (by rw [← HL.out]; exact hh.2 k hkn)))
          go_wp2_with fail
          go_ret
          rw [HE.out]
          exact ⟨rfl, bel1 _ _⟩
      · obtain rfl : k = R := by omega
        have HE := Lib.hid (show shpB k I k rn = true from shpB_true.2 ⟨rfl, hin.out⟩)
        go_wp2_with fail
        go_ret
        rw [HE.out]
        exact ⟨rfl, bel1 _ _⟩
  · have d1 : ¬ (R : Int) = (P : Int) := by omega
    have HE := Lib.hid (show shpB P I R rn = false from shpB_false (fun hh => hRP hh.1))
    go_enter Tryd.func63, Tryd.ntmps63
    go_wp2_with fail
    go_ret
    rw [HE.out]
    exact ⟨rfl, bel1 _ _⟩

set_option maxRecDepth 20000 in
set_option maxHeartbeats 2000000 in
theorem xshaped_any (pa ia ca : Option Addr) (P pc I ic R cc : Nat) (zp zi : Nat → Int) (ra : Nat → Option Addr) (rn rc : Nat → Nat) (z : Nat → Nat → Int) (w : World) (hp : Is w pa P pc zp) (hi : Is w ia I ic zi) (hc : Rw w ca R cc ra rn rc z) :
    Calls Tryd.prog 50 #[.agg #[.slice pa P pc, .slice ia I ic, .slice ca R cc]] w fun e w' => e = .returned (.bool (shpB P I R rn)) ∧ Below w.heap.size w w' := by
  have HP := Lib.hid hp
  have HI := Lib.hid hi
  have HC := Lib.hid hc
  have b1 := hp.1
  have b2 := hp.2.1
  have b3 := hi.1
  have b4 := hi.2.1
  have b5 := hc.1
  have b6 := hc.2.1
  unfold maxLen at b2 b4 b6
  clear hp hi hc
  by_cases hRP : R = P
  · subst hRP
    go_enter Tryd.func50, Tryd.ntmps50
    go_wp2_with fail
    go_loopw [15] (fun i wr => ∃ k : Nat, k ≤ R ∧ i = .int .i64 k ∧ Hid (∀ j, j < k → rn j = I) ∧ (w.alloc (.cells #[.slice pa R pc, .slice ia I ic, .slice ca R cc] 43)) = wr) (fun i _ => R - (intOf i).toNat)
    case atStart => exact ⟨0, Nat.zero_le _, rfl, Lib.hid (fun j hj => by omega), rfl⟩
    case round =>
      obtain ⟨k, hk, rfl, hin, rfl⟩ := hrel
      by_cases hkn : k < R
      · obtain ⟨b, off, rfl, hcc⟩ := (HC.out.alloc (.cells #[.slice pa R pc, .slice ia I ic, .slice ca R cc] 43)).2.2 (by omega)
        obtain ⟨hcell, hrow⟩ := hcc k hkn
        have r1 := hrow.1
        have r2 := hrow.2.1
        unfold maxLen at r2
        obtain ⟨l, hl⟩ : ∃ l, rn k = l := ⟨_, rfl⟩
        rw [hl] at hcell r1
        have HL := Lib.hid hl
        clear hcc hrow hl
        have hix0 : (0 : Int) ≤ (k : Int) := by omega
        have hix1 : (k : Int) < (R : Int) := by omega
        by_cases hlI : l = I
        · subst hlI
          have HIN := Lib.hid (all_lt_succ hin.out (show rn k = l from HL.out))
          go_wp2_with fail
          go_roundw
          case rel => exact ⟨k + 1, by omega, by go_num, HIN, by first | rfl | trivial⟩
          case measure => simp [intOf]; omega
        · have d1 : ¬ (l : Int) = (I : Int) := by omega
          have HE := Lib.hid (show shpB R I R rn = false from shpB_false (fun hh => hlI (by rw [← HL.out]; exact hh.2 k hkn)))
          go_wp2_with fail
          go_ret
          rw [HE.out]
          exact ⟨rfl, bel1 _ _⟩
      · obtain rfl : k = R := by omega
        have HE := Lib.hid (show shpB k I k rn = true from shpB_true.2 ⟨rfl, hin.out⟩)
        go_wp2_with fail
        go_ret
        rw [HE.out]
        exact ⟨rfl, bel1 _ _⟩
  · have d1 : ¬ (R : Int) = (P : Int) := by omega
    have HE := Lib.hid (show shpB P I R rn = false from shpB_false (fun hh => hRP hh.1))
    go_enter Tryd.func50, Tryd.ntmps50
    go_wp2_with fail
    go_ret
    rw [HE.out]
    exact ⟨rfl, bel1 _ _⟩

set_option maxRecDepth 20000 in
set_option maxHeartbeats 8000000 in
theorem mxvalid_any (pa ia ca : Option Addr) (P pc I ic R cc : Nat) (zp zi : Nat → Int) (ra : Nat → Option Addr) (rn rc : Nat → Nat) (z : Nat → Nat → Int) (w : World) (hp : Is w pa P pc zp) (hi : Is w ia I ic zi) (hc : Rw w ca R cc ra rn rc z) (qa : Option Addr) (qc : Nat) (hq : Is w qa I qc (fun _ => 2)) :
    Calls Tryd.prog 39 #[.agg #[.slice pa P pc, .slice ia I ic, .slice ca R cc], .slice qa I qc] w fun e w' => ∃ v, e = .returned (.int .i64 v) ∧ (v = 0 ↔ GdM P I R zp zi rn z) ∧ Below w.heap.size w w' := by
  have HP := Lib.hid hp
  have HI := Lib.hid hi
  have HC := Lib.hid hc
  have b1 := hp.1
  have b2 := hp.2.1
  have b3 := hi.1
  have b4 := hi.2.1
  have b5 := hc.1
  have b6 := hc.2.1
  unfold maxLen at b2 b4 b6
  clear hp hi hc
  have HQ := Lib.hid hq
  have b7 := hq.1
  have b8 := hq.2.1
  unfold maxLen at b8
  clear hq
  have HB := Lib.hid (Below.refl w.heap.size w)
  by_cases hP : P ≤ 200
  · by_cases hI : I ≤ 60
    · go_enter Tryd.func39, Tryd.ntmps39
      go_wp2_with fail
      refine calls_name fun W0 hW => ?_
      have hs_W0 : w.heap.size ≤ W0.heap.size := by rw [← hW]; (first | omega | (simp; done) | (simp; omega))
      have HL_W0 := Lib.hid (show Below w.heap.size w W0 by rw [← hW]; exact BlA)
      have k_M_0 : W0.cell? ⟨w.heap.size, 0, none⟩ = some (.slice pa P pc) := by rw [← hW]; (first | (go_simp; done) | (simp; done) | (simp [go_sem]; done) | (simp [go_sem]; done))
      have k_M_1 : W0.cell? ⟨w.heap.size, 1, none⟩ = some (.slice ia I ic) := by rw [← hW]; (first | (go_simp; done) | (simp; done) | (simp [go_sem]; done) | (simp [go_sem]; done))
      have k_M_2 : W0.cell? ⟨w.heap.size, 2, none⟩ = some (.slice ca R cc) := by rw [← hW]; (first | (go_simp; done) | (simp; done) | (simp [go_sem]; done) | (simp [go_sem]; done))
      have f_M : ∀ o, W0.frozen? ⟨w.heap.size, o, none⟩ = false := by intro o; rw [← hW]; (first | (go_simp; done) | (simp; done) | (simp [go_sem]; done) | (simp [go_sem]; done))
      have HX_M := Lib.hid (show Bn W0 (w.heap.size) by rw [← hW]; exact KpA)
      replace HB := Lib.hid (show Below w.heap.size w W0 by rw [← hW]; exact BlA)
      have hs0 : w.heap.size ≤ W0.heap.size := by rw [← hW]; (first | omega | (simp; done) | (simp; omega))
      have hl_M : w.heap.size < W0.heap.size := by rw [← hW]; (first | omega | (simp; done) | (simp; omega))
      replace HP := Lib.hid (HP.out.below HL_W0.out)
      replace HI := Lib.hid (HI.out.below HL_W0.out)
      replace HC := Lib.hid (HC.out.below HL_W0.out)
      replace HQ := Lib.hid (HQ.out.below HL_W0.out)
      clear HL_W0
      clear hW
      rcases Bool.eq_false_or_eq_true (risB zp P && risB zi I) with e1 | e1
      · have E1 := Lib.hid e1
        clear e1
        have E4 := Lib.hid ((Bool.and_eq_true_iff).1 E1.out)
        refine (mordered_any _ _ _ _ _ _ _ _ _ zp zi _ _ _ z _ HP.out HI.out HC.out).mono ?_
        rw [E1.out]
        rintro e wa ⟨rfl, hb⟩
        have hs_wa : W0.heap.size ≤ wa.heap.size := hb.size
        replace k_M_0 : wa.cell? ⟨w.heap.size, 0, none⟩ = some (.slice pa P pc) := (hb.cell (p := ⟨w.heap.size, 0, none⟩) hl_M).trans k_M_0
        replace k_M_1 : wa.cell? ⟨w.heap.size, 1, none⟩ = some (.slice ia I ic) := (hb.cell (p := ⟨w.heap.size, 1, none⟩) hl_M).trans k_M_1
        replace k_M_2 : wa.cell? ⟨w.heap.size, 2, none⟩ = some (.slice ca R cc) := (hb.cell (p := ⟨w.heap.size, 2, none⟩) hl_M).trans k_M_2
        replace f_M : ∀ o, wa.frozen? ⟨w.heap.size, o, none⟩ = false := fun o => (hb.frozen (p := ⟨w.heap.size, o, none⟩) hl_M).trans (f_M o)
        replace HX_M := Lib.hid (HX_M.out.below hb)
        replace HB := Lib.hid (HB.out.trans (hb.mono hs0))
        replace hs0 : w.heap.size ≤ wa.heap.size := Nat.le_trans hs0 hb.size
        replace hl_M : w.heap.size < wa.heap.size := Nat.lt_of_lt_of_le hl_M hb.size
        replace HP := Lib.hid (HP.out.below hb)
        replace HI := Lib.hid (HI.out.below hb)
        replace HC := Lib.hid (HC.out.below hb)
        replace HQ := Lib.hid (HQ.out.below hb)
        clear hb
        go_wp2_with fail
        refine calls_name fun W2 hW => ?_
        have HL_W2 := Lib.hid (show Below wa.heap.size wa W2 by rw [← hW]; exact BlA)
        have hs_W2 : wa.heap.size ≤ W2.heap.size := by rw [← hW]; (first | omega | (simp; done) | (simp; omega))
        replace k_M_0 : W2.cell? ⟨w.heap.size, 0, none⟩ = some (.slice pa P pc) := (HL_W2.out.cell (p := ⟨w.heap.size, 0, none⟩) hl_M).trans k_M_0
        replace k_M_1 : W2.cell? ⟨w.heap.size, 1, none⟩ = some (.slice ia I ic) := (HL_W2.out.cell (p := ⟨w.heap.size, 1, none⟩) hl_M).trans k_M_1
        replace k_M_2 : W2.cell? ⟨w.heap.size, 2, none⟩ = some (.slice ca R cc) := (HL_W2.out.cell (p := ⟨w.heap.size, 2, none⟩) hl_M).trans k_M_2
        replace f_M : ∀ o, W2.frozen? ⟨w.heap.size, o, none⟩ = false := fun o => (HL_W2.out.frozen (p := ⟨w.heap.size, o, none⟩) hl_M).trans (f_M o)
        replace HX_M := Lib.hid (show Bn W2 (w.heap.size) by rw [← hW]; exact KpA)
        replace HB := Lib.hid (show Below w.heap.size w W2 by rw [← hW]; exact BlA)
        replace hs0 : w.heap.size ≤ W2.heap.size := by rw [← hW]; (first | omega | (simp; done) | (simp; omega))
        replace hl_M : w.heap.size < W2.heap.size := by rw [← hW]; (first | omega | (simp; done) | (simp; omega))
        replace HP := Lib.hid (HP.out.below HL_W2.out)
        replace HI := Lib.hid (HI.out.below HL_W2.out)
        replace HC := Lib.hid (HC.out.below HL_W2.out)
        replace HQ := Lib.hid (HQ.out.below HL_W2.out)
        clear HL_W2
        clear hW
        rcases Bool.eq_false_or_eq_true (shpB P I R rn) with e3 | e3
        · have E3 := Lib.hid e3
          clear e3
          refine (mshaped_any _ _ _ _ _ _ _ _ _ zp zi _ _ _ z _ HP.out HI.out HC.out).mono ?_
          rw [E3.out]
          rintro e wc ⟨rfl, hb⟩
          have hs_wc : W2.heap.size ≤ wc.heap.size := hb.size
          replace k_M_0 : wc.cell? ⟨w.heap.size, 0, none⟩ = some (.slice pa P pc) := (hb.cell (p := ⟨w.heap.size, 0, none⟩) hl_M).trans k_M_0
          replace k_M_1 : wc.cell? ⟨w.heap.size, 1, none⟩ = some (.slice ia I ic) := (hb.cell (p := ⟨w.heap.size, 1, none⟩) hl_M).trans k_M_1
          replace k_M_2 : wc.cell? ⟨w.heap.size, 2, none⟩ = some (.slice ca R cc) := (hb.cell (p := ⟨w.heap.size, 2, none⟩) hl_M).trans k_M_2
          replace f_M : ∀ o, wc.frozen? ⟨w.heap.size, o, none⟩ = false := fun o => (hb.frozen (p := ⟨w.heap.size, o, none⟩) hl_M).trans (f_M o)
          replace HX_M := Lib.hid (HX_M.out.below hb)
          replace HB := Lib.hid (HB.out.trans (hb.mono hs0))
          replace hs0 : w.heap.size ≤ wc.heap.size := Nat.le_trans hs0 hb.size
          replace hl_M : w.heap.size < wc.heap.size := Nat.lt_of_lt_of_le hl_M hb.size
          replace HP := Lib.hid (HP.out.below hb)
          replace HI := Lib.hid (HI.out.below hb)
          replace HC := Lib.hid (HC.out.below hb)
          replace HQ := Lib.hid (HQ.out.below hb)
          clear hb
          obtain ⟨hRP, hrn⟩ := shpB_true.1 E3.out
          have HRP := Lib.hid hRP
          have HRN := Lib.hid hrn
          clear hrn hRP E3
          go_wp2_with fail
          refine block_nameM fun W3 hW => ?_
          have HL_W3 := Lib.hid (show Below wc.heap.size wc W3 by rw [← hW]; exact BlA)
          have hs_W3 : wc.heap.size ≤ W3.heap.size := by rw [← hW]; (first | omega | (simp; done) | (simp; omega))
          replace k_M_0 : W3.cell? ⟨w.heap.size, 0, none⟩ = some (.slice pa P pc) := (HL_W3.out.cell (p := ⟨w.heap.size, 0, none⟩) hl_M).trans k_M_0
          replace k_M_1 : W3.cell? ⟨w.heap.size, 1, none⟩ = some (.slice ia I ic) := (HL_W3.out.cell (p := ⟨w.heap.size, 1, none⟩) hl_M).trans k_M_1
          replace k_M_2 : W3.cell? ⟨w.heap.size, 2, none⟩ = some (.slice ca R cc) := (HL_W3.out.cell (p := ⟨w.heap.size, 2, none⟩) hl_M).trans k_M_2
          replace f_M : ∀ o, W3.frozen? ⟨w.heap.size, o, none⟩ = false := fun o => (HL_W3.out.frozen (p := ⟨w.heap.size, o, none⟩) hl_M).trans (f_M o)
          replace HX_M := Lib.hid (show Bn W3 (w.heap.size) by rw [← hW]; exact KpA)
          replace HB := Lib.hid (show Below w.heap.size w W3 by rw [← hW]; exact BlA)
          replace hs0 : w.heap.size ≤ W3.heap.size := by rw [← hW]; (first | omega | (simp; done) | (simp; omega))
          replace hl_M : w.heap.size < W3.heap.size := by rw [← hW]; (first | omega | (simp; done) | (simp; omega))
          replace HP := Lib.hid (HP.out.below HL_W3.out)
          replace HI := Lib.hid (HI.out.below HL_W3.out)
          replace HC := Lib.hid (HC.out.below HL_W3.out)
          replace HQ := Lib.hid (HQ.out.below HL_W3.out)
          clear HL_W3
          clear hW
          go_loopw [42] (fun i wr => ∃ k : Nat, k ≤ I ∧ i = .int .i64 k ∧ W3 = wr) (fun i _ => I - (intOf i).toNat)
          case atStart => exact ⟨0, Nat.zero_le _, rfl, rfl⟩
          case round =>
            obtain ⟨k, hk, rfl, rfl⟩ := hrel
            by_cases hkn : k < I
            · obtain ⟨b, off, rfl, hcc⟩ := HQ.out.2.2 (by omega)
              have hcell := hcc k hkn
              clear hcc
              have hix0 : (0 : Int) ≤ (k : Int) := by omega
              have hix1 : (k : Int) < (I : Int) := by omega
              go_wp2_with fail
              go_roundw
              case rel => exact ⟨k + 1, by omega, by go_num, by first | rfl | trivial⟩
              case measure => simp [intOf]; omega
            · obtain rfl : k = I := by omega
              go_wp2_with fail
              go_loopw [56] (fun i wr => ∃ j : Nat, j ≤ R ∧ i = .int .i64 j ∧ Hid (∀ x, x < j → ∀ y, y < k → -2 ≤ z x y ∧ z x y ≤ 1) ∧ W3 = wr) (fun i _ => R - (intOf i).toNat)
              case atStart => exact ⟨0, Nat.zero_le _, rfl, Lib.hid (fun j hj => by omega), rfl⟩
              case round =>
                obtain ⟨j, hj, rfl, hin, rfl⟩ := hrel
                by_cases hjn : j < R
                · obtain ⟨b, off, rfl, hcc⟩ := HC.out.2.2 (by omega)
                  obtain ⟨hcell, hrow⟩ := hcc j hjn
                  rw [HRN.out j hjn] at hcell hrow
                  have HROW := Lib.hid hrow
                  have r1 := hrow.1
                  have r2 := hrow.2.1
                  unfold maxLen at r2
                  clear hcc hrow
                  have hix0 : (0 : Int) ≤ (j : Int) := by omega
                  have hix1 : (j : Int) < (R : Int) := by omega
                  go_wp2_with fail
                  go_loopw [62] (fun i wr => ∃ m : Nat, m ≤ k ∧ i = .int .i64 m ∧ Hid (∀ y, y < m → -2 ≤ z j y ∧ z j y ≤ 1) ∧ W3 = wr) (fun i _ => k - (intOf i).toNat)
                  case atStart => exact ⟨0, Nat.zero_le _, rfl, Lib.hid (fun j hj => by omega), rfl⟩
                  case round =>
                    obtain ⟨m, hm, rfl, hiw, rfl⟩ := hrel
                    by_cases hmn : m < k
                    · obtain ⟨b2, off2, hra, hc2⟩ := HROW.out.2.2 (by omega)
                      rw [hra] at hcell
                      have hcell2 := hc2 m hmn
                      obtain ⟨b3', off3, hqa, hc3⟩ := HQ.out.2.2 (by omega)
                      have hcell3 := hc3 m hmn
                      obtain ⟨v, hv⟩ : ∃ v, z j m = v := ⟨_, rfl⟩
                      rw [hv] at hcell2
                      have HV := Lib.hid hv
                      clear hc2 hc3 hv
                      have hmz0 : (0 : Int) ≤ (m : Int) := by omega
                      have hmz1 : (m : Int) < (k : Int) := by omega
                      have HRA := Lib.hid hra
                      subst hqa
                      rw [hra]
                      clear hra
                      by_cases v1 : v = -1
                      · subst v1
                        have HIN := Lib.hid (all_lt_succ hiw.out (show -2 ≤ z j m ∧ z j m ≤ 1 by rw [HV.out]; omega))
                        go_wp2_with fail
                        go_roundw
                        case rel => exact ⟨m + 1, by omega, by go_num, HIN, by first | rfl | trivial⟩
                        case measure => simp [intOf]; omega
                      · by_cases v2 : v = -2
                        · subst v2
                          have HIN := Lib.hid (all_lt_succ hiw.out (show -2 ≤ z j m ∧ z j m ≤ 1 by rw [HV.out]; omega))
                          go_wp2_with fail
                          go_roundw
                          case rel => exact ⟨m + 1, by omega, by go_num, HIN, by first | rfl | trivial⟩
                          case measure => simp [intOf]; omega
                        · have v1b : (v == -1) = false := by simp; omega
                          have v2b : (v == -2) = false := by simp; omega
                          have v1c : (v != -1) = true := by simp; omega
                          have v2c : (v != -2) = true := by simp; omega
                          by_cases v3 : v < 0
                          · go_wp2_with fail
                            refine bodyPost_ret (v := .int .i64 3) (by simp [results, Tryd.results39, go_sem]) rfl ⟨3, rfl, ⟨fun h => absurd h (by decide), fun h => by have h9 := h.2.2.2.2.2.2 j hjn m hmn; rw [HV.out] at h9; omega⟩, HB.out⟩
                          · by_cases v4 : 2 ≤ v
                            · go_wp2_with fail
                              refine bodyPost_ret (v := .int .i64 3) (by simp [results, Tryd.results39, go_sem]) rfl ⟨3, rfl, ⟨fun h => absurd h (by decide), fun h => by have h9 := h.2.2.2.2.2.2 j hjn m hmn; rw [HV.out] at h9; omega⟩, HB.out⟩
                            · have HIN := Lib.hid (all_lt_succ hiw.out (show -2 ≤ z j m ∧ z j m ≤ 1 by rw [HV.out]; omega))
                              go_wp2_with fail
                              go_roundw
                              case rel => exact ⟨m + 1, by omega, by go_num, HIN, by first | rfl | trivial⟩
                              case measure => simp [intOf]; omega
                    · obtain rfl : m = k := by omega
                      have HIN2 := Lib.hid (all_lt_succ (Q := fun x => ∀ y, y < m → -2 ≤ z x y ∧ z x y ≤ 1) hin.out hiw.out)
                      go_wp2_with fail
                      go_roundw
                      case rel => exact ⟨j + 1, by omega, by go_num, HIN2, by first | rfl | trivial⟩
                      case measure => simp [intOf]; omega
                · obtain rfl : j = R := by omega
                  go_wp2_with fail
                  refine bodyPost_ret (v := .int .i64 0) (by simp [results, Tryd.results39, go_sem]) rfl ⟨0, rfl, ⟨fun _ => ⟨hP, hI, risB_true.1 E4.out.1, risB_true.1 E4.out.2, HRP.out, HRN.out, hin.out⟩, fun _ => rfl⟩, HB.out⟩
        · have E3 := Lib.hid e3
          clear e3
          refine (mshaped_any _ _ _ _ _ _ _ _ _ zp zi _ _ _ z _ HP.out HI.out HC.out).mono ?_
          rw [E3.out]
          rintro e wc ⟨rfl, hb⟩
          have hs_wc : W2.heap.size ≤ wc.heap.size := hb.size
          replace k_M_0 : wc.cell? ⟨w.heap.size, 0, none⟩ = some (.slice pa P pc) := (hb.cell (p := ⟨w.heap.size, 0, none⟩) hl_M).trans k_M_0
          replace k_M_1 : wc.cell? ⟨w.heap.size, 1, none⟩ = some (.slice ia I ic) := (hb.cell (p := ⟨w.heap.size, 1, none⟩) hl_M).trans k_M_1
          replace k_M_2 : wc.cell? ⟨w.heap.size, 2, none⟩ = some (.slice ca R cc) := (hb.cell (p := ⟨w.heap.size, 2, none⟩) hl_M).trans k_M_2
          replace f_M : ∀ o, wc.frozen? ⟨w.heap.size, o, none⟩ = false := fun o => (hb.frozen (p := ⟨w.heap.size, o, none⟩) hl_M).trans (f_M o)
          replace HX_M := Lib.hid (HX_M.out.below hb)
          replace HB := Lib.hid (HB.out.trans (hb.mono hs0))
          replace hs0 : w.heap.size ≤ wc.heap.size := Nat.le_trans hs0 hb.size
          replace hl_M : w.heap.size < wc.heap.size := Nat.lt_of_lt_of_le hl_M hb.size
          replace HP := Lib.hid (HP.out.below hb)
          replace HI := Lib.hid (HI.out.below hb)
          replace HC := Lib.hid (HC.out.below hb)
          replace HQ := Lib.hid (HQ.out.below hb)
          clear hb
          go_wp2_with fail
          refine bodyPost_ret (v := .int .i64 1) (by simp [results, Tryd.results39, go_sem]) rfl ⟨1, rfl, ⟨fun h => absurd h (by decide), fun h => absurd (shpB_true.2 ⟨h.2.2.2.2.1, h.2.2.2.2.2.1⟩) (by rw [E3.out]; decide)⟩, HB.out⟩
      · have E1 := Lib.hid e1
        clear e1
        refine (mordered_any _ _ _ _ _ _ _ _ _ zp zi _ _ _ z _ HP.out HI.out HC.out).mono ?_
        rw [E1.out]
        rintro e wa ⟨rfl, hb⟩
        have hs_wa : W0.heap.size ≤ wa.heap.size := hb.size
        replace k_M_0 : wa.cell? ⟨w.heap.size, 0, none⟩ = some (.slice pa P pc) := (hb.cell (p := ⟨w.heap.size, 0, none⟩) hl_M).trans k_M_0
        replace k_M_1 : wa.cell? ⟨w.heap.size, 1, none⟩ = some (.slice ia I ic) := (hb.cell (p := ⟨w.heap.size, 1, none⟩) hl_M).trans k_M_1
        replace k_M_2 : wa.cell? ⟨w.heap.size, 2, none⟩ = some (.slice ca R cc) := (hb.cell (p := ⟨w.heap.size, 2, none⟩) hl_M).trans k_M_2
        replace f_M : ∀ o, wa.frozen? ⟨w.heap.size, o, none⟩ = false := fun o => (hb.frozen (p := ⟨w.heap.size, o, none⟩) hl_M).trans (f_M o)
        replace HX_M := Lib.hid (HX_M.out.below hb)
        replace HB := Lib.hid (HB.out.trans (hb.mono hs0))
        replace hs0 : w.heap.size ≤ wa.heap.size := Nat.le_trans hs0 hb.size
        replace hl_M : w.heap.size < wa.heap.size := Nat.lt_of_lt_of_le hl_M hb.size
        replace HP := Lib.hid (HP.out.below hb)
        replace HI := Lib.hid (HI.out.below hb)
        replace HC := Lib.hid (HC.out.below hb)
        replace HQ := Lib.hid (HQ.out.below hb)
        clear hb
        go_wp2_with fail
        refine bodyPost_ret (v := .int .i64 23) (by simp [results, Tryd.results39, go_sem]) rfl ⟨23, rfl, ⟨fun h => absurd h (by decide), fun h => absurd ((Bool.and_eq_true_iff).2 ⟨risB_true.2 h.2.2.1, risB_true.2 h.2.2.2.1⟩) (by rw [E1.out]; decide)⟩, HB.out⟩
    · go_enter Tryd.func39, Tryd.ntmps39
      go_wp2_with fail
      refine bodyPost_ret (v := .int .i64 5) (by simp [results, Tryd.results39, go_sem]) rfl ⟨5, rfl, ⟨fun h => absurd h (by decide), fun h => absurd h.2.1 hI⟩, bel1 _ _⟩
  · go_enter Tryd.func39, Tryd.ntmps39
    go_wp2_with fail
    refine bodyPost_ret (v := .int .i64 5) (by simp [results, Tryd.results39, go_sem]) rfl ⟨5, rfl, ⟨fun h => absurd h (by decide), fun h => absurd h.1 hP⟩, bel1 _ _⟩

set_option maxRecDepth 20000 in
set_option maxHeartbeats 8000000 in
theorem xmxvalid_any (pa ia ca : Option Addr) (P pc I ic R cc : Nat) (zp zi : Nat → Int) (ra : Nat → Option Addr) (rn rc : Nat → Nat) (z : Nat → Nat → Int) (w : World) (hp : Is w pa P pc zp) (hi : Is w ia I ic zi) (hc : Rw w ca R cc ra rn rc z) (qa : Option Addr) (qc : Nat) (hq : Is w qa I qc (fun _ => 2)) :
    Calls Tryd.prog 22 #[.agg #[.slice pa P pc, .slice ia I ic, .slice ca R cc], .slice qa I qc] w fun e w' => ∃ v, e = .returned (.int .i64 v) ∧ (v = 0 ↔ GdM P I R zp zi rn z) ∧ Below w.heap.size w w' := by
  have HP := Lib.hid hp
  have HI := Lib.hid hi
  have HC := Lib.hid hc
  have b1 := hp.1
  have b2 := hp.2.1
  have b3 := hi.1
  have b4 := hi.2.1
  have b5 := hc.1
  have b6 := hc.2.1
  unfold maxLen at b2 b4 b6
  clear hp hi hc
  have HQ := Lib.hid hq
  have b7 := hq.1
  have b8 := hq.2.1
  unfold maxLen at b8
  clear hq
  have HB := Lib.hid (Below.refl w.heap.size w)
  by_cases hP : P ≤ 200
  · by_cases hI : I ≤ 60
    · go_enter Tryd.func22, Tryd.ntmps22
      go_wp2_with fail
      refine calls_name fun W0 hW => ?_
      have hs_W0 : w.heap.size ≤ W0.heap.size := by rw [← hW]; (first | omega | (simp; done) | (simp; omega))
      have HL_W0 := Lib.hid (show Below w.heap.size w W0 by rw [← hW]; exact BlA)
      have k_M_0 : W0.cell? ⟨w.heap.size, 0, none⟩ = some (.slice pa P pc) := by rw [← hW]; (first | (go_simp; done) | (simp; done) | (simp [go_sem]; done) | (simp [go_sem]; done))
      have k_M_1 : W0.cell? ⟨w.heap.size, 1, none⟩ = some (.slice ia I ic) := by rw [← hW]; (first | (go_simp; done) | (simp; done) | (simp [go_sem]; done) | (simp [go_sem]; done))
      have k_M_2 : W0.cell? ⟨w.heap.size, 2, none⟩ = some (.slice ca R cc) := by rw [← hW]; (first | (go_simp; done) | (simp; done) | (simp [go_sem]; done) | (simp [go_sem]; done))
      have f_M : ∀ o, W0.frozen? ⟨w.heap.size, o, none⟩ = false := by intro o; rw [← hW]; (first | (go_simp; done) | (simp; done) | (simp [go_sem]; done) | (simp [go_sem]; done))
      have HX_M := Lib.hid (show Bn W0 (w.heap.size) by rw [← hW]; exact KpA)
      replace HB := Lib.hid (show Below w.heap.size w W0 by rw [← hW]; exact BlA)
      have hs0 : w.heap.size ≤ W0.heap.size := by rw [← hW]; (first | omega | (simp; done) | (simp; omega))
      have hl_M : w.heap.size < W0.heap.size := by rw [← hW]; (first | omega | (simp; done) | (simp; omega))
      replace HP := Lib.hid (HP.out.below HL_W0.out)
      replace HI := Lib.hid (HI.out.below HL_W0.out)
      replace HC := Lib.hid (HC.out.below HL_W0.out)
      replace HQ := Lib.hid (HQ.out.below HL_W0.out)
      clear HL_W0
      clear hW
      rcases Bool.eq_false_or_eq_true (risB zp P) with e1 | e1
      · have E1 := Lib.hid e1
        clear e1
        refine (xrising_any _ _ _ _ _ HP.out).mono ?_
        rw [E1.out]
        rintro e wa ⟨rfl, hb⟩
        have hs_wa : W0.heap.size ≤ wa.heap.size := hb.size
        replace k_M_0 : wa.cell? ⟨w.heap.size, 0, none⟩ = some (.slice pa P pc) := (hb.cell (p := ⟨w.heap.size, 0, none⟩) hl_M).trans k_M_0
        replace k_M_1 : wa.cell? ⟨w.heap.size, 1, none⟩ = some (.slice ia I ic) := (hb.cell (p := ⟨w.heap.size, 1, none⟩) hl_M).trans k_M_1
        replace k_M_2 : wa.cell? ⟨w.heap.size, 2, none⟩ = some (.slice ca R cc) := (hb.cell (p := ⟨w.heap.size, 2, none⟩) hl_M).trans k_M_2
        replace f_M : ∀ o, wa.frozen? ⟨w.heap.size, o, none⟩ = false := fun o => (hb.frozen (p := ⟨w.heap.size, o, none⟩) hl_M).trans (f_M o)
        replace HX_M := Lib.hid (HX_M.out.below hb)
        replace HB := Lib.hid (HB.out.trans (hb.mono hs0))
        replace hs0 : w.heap.size ≤ wa.heap.size := Nat.le_trans hs0 hb.size
        replace hl_M : w.heap.size < wa.heap.size := Nat.lt_of_lt_of_le hl_M hb.size
        replace HP := Lib.hid (HP.out.below hb)
        replace HI := Lib.hid (HI.out.below hb)
        replace HC := Lib.hid (HC.out.below hb)
        replace HQ := Lib.hid (HQ.out.below hb)
        clear hb
        go_wp2_with fail
        refine calls_name fun W1 hW => ?_
        have HL_W1 := Lib.hid (show Below wa.heap.size wa W1 by rw [← hW]; exact BlA)
        have hs_W1 : wa.heap.size ≤ W1.heap.size := by rw [← hW]; (first | omega | (simp; done) | (simp; omega))
        replace k_M_0 : W1.cell? ⟨w.heap.size, 0, none⟩ = some (.slice pa P pc) := (HL_W1.out.cell (p := ⟨w.heap.size, 0, none⟩) hl_M).trans k_M_0
        replace k_M_1 : W1.cell? ⟨w.heap.size, 1, none⟩ = some (.slice ia I ic) := (HL_W1.out.cell (p := ⟨w.heap.size, 1, none⟩) hl_M).trans k_M_1
        replace k_M_2 : W1.cell? ⟨w.heap.size, 2, none⟩ = some (.slice ca R cc) := (HL_W1.out.cell (p := ⟨w.heap.size, 2, none⟩) hl_M).trans k_M_2
        replace f_M : ∀ o, W1.frozen? ⟨w.heap.size, o, none⟩ = false := fun o => (HL_W1.out.frozen (p := ⟨w.heap.size, o, none⟩) hl_M).trans (f_M o)
        replace HX_M := Lib.hid (show Bn W1 (w.heap.size) by rw [← hW]; exact KpA)
        replace HB := Lib.hid (show Below w.heap.size w W1 by rw [← hW]; exact BlA)
        replace hs0 : w.heap.size ≤ W1.heap.size := by rw [← hW]; (first | omega | (simp; done) | (simp; omega))
        replace hl_M : w.heap.size < W1.heap.size := by rw [← hW]; (first | omega | (simp; done) | (simp; omega))
        replace HP := Lib.hid (HP.out.below HL_W1.out)
        replace HI := Lib.hid (HI.out.below HL_W1.out)
        replace HC := Lib.hid (HC.out.below HL_W1.out)
        replace HQ := Lib.hid (HQ.out.below HL_W1.out)
        clear HL_W1
        clear hW
        rcases Bool.eq_false_or_eq_true (risB zi I) with e2 | e2
        · have E2 := Lib.hid e2
          clear e2
          refine (xrising_any _ _ _ _ _ HI.out).mono ?_
          rw [E2.out]
          rintro e wb ⟨rfl, hb⟩
          have hs_wb : W1.heap.size ≤ wb.heap.size := hb.size
          replace k_M_0 : wb.cell? ⟨w.heap.size, 0, none⟩ = some (.slice pa P pc) := (hb.cell (p := ⟨w.heap.size, 0, none⟩) hl_M).trans k_M_0
          replace k_M_1 : wb.cell? ⟨w.heap.size, 1, none⟩ = some (.slice ia I ic) := (hb.cell (p := ⟨w.heap.size, 1, none⟩) hl_M).trans k_M_1
          replace k_M_2 : wb.cell? ⟨w.heap.size, 2, none⟩ = some (.slice ca R cc) := (hb.cell (p := ⟨w.heap.size, 2, none⟩) hl_M).trans k_M_2
          replace f_M : ∀ o, wb.frozen? ⟨w.heap.size, o, none⟩ = false := fun o => (hb.frozen (p := ⟨w.heap.size, o, none⟩) hl_M).trans (f_M o)
          replace HX_M := Lib.hid (HX_M.out.below hb)
          replace HB := Lib.hid (HB.out.trans (hb.mono hs0))
          replace hs0 : w.heap.size ≤ wb.heap.size := Nat.le_trans hs0 hb.size
          replace hl_M : w.heap.size < wb.heap.size := Nat.lt_of_lt_of_le hl_M hb.size
          replace HP := Lib.hid (HP.out.below hb)
          replace HI := Lib.hid (HI.out.below hb)
          replace HC := Lib.hid (HC.out.below hb)
          replace HQ := Lib.hid (HQ.out.below hb)
          clear hb
          go_wp2_with fail
          refine calls_name fun W2 hW => ?_
          have HL_W2 := Lib.hid (show Below wb.heap.size wb W2 by rw [← hW]; exact BlA)
          have hs_W2 : wb.heap.size ≤ W2.heap.size := by rw [← hW]; (first | omega | (simp; done) | (simp; omega))
          replace k_M_0 : W2.cell? ⟨w.heap.size, 0, none⟩ = some (.slice pa P pc) := (HL_W2.out.cell (p := ⟨w.heap.size, 0, none⟩) hl_M).trans k_M_0
          replace k_M_1 : W2.cell? ⟨w.heap.size, 1, none⟩ = some (.slice ia I ic) := (HL_W2.out.cell (p := ⟨w.heap.size, 1, none⟩) hl_M).trans k_M_1
          replace k_M_2 : W2.cell? ⟨w.heap.size, 2, none⟩ = some (.slice ca R cc) := (HL_W2.out.cell (p := ⟨w.heap.size, 2, none⟩) hl_M).trans k_M_2
          replace f_M : ∀ o, W2.frozen? ⟨w.heap.size, o, none⟩ = false := fun o => (HL_W2.out.frozen (p := ⟨w.heap.size, o, none⟩) hl_M).trans (f_M o)
          replace HX_M := Lib.hid (show Bn W2 (w.heap.size) by rw [← hW]; exact KpA)
          replace HB := Lib.hid (show Below w.heap.size w W2 by rw [← hW]; exact BlA)
          replace hs0 : w.heap.size ≤ W2.heap.size := by rw [← hW]; (first | omega | (simp; done) | (simp; omega))
          replace hl_M : w.heap.size < W2.heap.size := by rw [← hW]; (first | omega | (simp; done) | (simp; omega))
          replace HP := Lib.hid (HP.out.below HL_W2.out)
          replace HI := Lib.hid (HI.out.below HL_W2.out)
          replace HC := Lib.hid (HC.out.below HL_W2.out)
          replace HQ := Lib.hid (HQ.out.below HL_W2.out)
          clear HL_W2
          clear hW
          rcases Bool.eq_false_or_eq_true (shpB P I R rn) with e3 | e3
          · have E3 := Lib.hid e3
            clear e3
            refine (xshaped_any _ _ _ _ _ _ _ _ _ zp zi _ _ _ z _ HP.out HI.out HC.out).mono ?_
            rw [E3.out]
            rintro e wc ⟨rfl, hb⟩
            have hs_wc : W2.heap.size ≤ wc.heap.size := hb.size
            replace k_M_0 : wc.cell? ⟨w.heap.size, 0, none⟩ = some (.slice pa P pc) := (hb.cell (p := ⟨w.heap.size, 0, none⟩) hl_M).trans k_M_0
            replace k_M_1 : wc.cell? ⟨w.heap.size, 1, none⟩ = some (.slice ia I ic) := (hb.cell (p := ⟨w.heap.size, 1, none⟩) hl_M).trans k_M_1
            replace k_M_2 : wc.cell? ⟨w.heap.size, 2, none⟩ = some (.slice ca R cc) := (hb.cell (p := ⟨w.heap.size, 2, none⟩) hl_M).trans k_M_2
            replace f_M : ∀ o, wc.frozen? ⟨w.heap.size, o, none⟩ = false := fun o => (hb.frozen (p := ⟨w.heap.size, o, none⟩) hl_M).trans (f_M o)
            replace HX_M := Lib.hid (HX_M.out.below hb)
            replace HB := Lib.hid (HB.out.trans (hb.mono hs0))
            replace hs0 : w.heap.size ≤ wc.heap.size := Nat.le_trans hs0 hb.size
            replace hl_M : w.heap.size < wc.heap.size := Nat.lt_of_lt_of_le hl_M hb.size
            replace HP := Lib.hid (HP.out.below hb)
            replace HI := Lib.hid (HI.out.below hb)
            replace HC := Lib.hid (HC.out.below hb)
            replace HQ := Lib.hid (HQ.out.below hb)
            clear hb
            obtain ⟨hRP, hrn⟩ := shpB_true.1 E3.out
            have HRP := Lib.hid hRP
            have HRN := Lib.hid hrn
            clear hrn hRP E3
            go_wp2_with fail
            refine block_nameM fun W3 hW => ?_
            have HL_W3 := Lib.hid (show Below wc.heap.size wc W3 by rw [← hW]; exact BlA)
            have hs_W3 : wc.heap.size ≤ W3.heap.size := by rw [← hW]; (first | omega | (simp; done) | (simp; omega))
            replace k_M_0 : W3.cell? ⟨w.heap.size, 0, none⟩ = some (.slice pa P pc) := (HL_W3.out.cell (p := ⟨w.heap.size, 0, none⟩) hl_M).trans k_M_0
            replace k_M_1 : W3.cell? ⟨w.heap.size, 1, none⟩ = some (.slice ia I ic) := (HL_W3.out.cell (p := ⟨w.heap.size, 1, none⟩) hl_M).trans k_M_1
            replace k_M_2 : W3.cell? ⟨w.heap.size, 2, none⟩ = some (.slice ca R cc) := (HL_W3.out.cell (p := ⟨w.heap.size, 2, none⟩) hl_M).trans k_M_2
            replace f_M : ∀ o, W3.frozen? ⟨w.heap.size, o, none⟩ = false := fun o => (HL_W3.out.frozen (p := ⟨w.heap.size, o, none⟩) hl_M).trans (f_M o)
            replace HX_M := Lib.hid (show Bn W3 (w.heap.size) by rw [← hW]; exact KpA)
            replace HB := Lib.hid (show Below w.heap.size w W3 by rw [← hW]; exact BlA)
            replace hs0 : w.heap.size ≤ W3.heap.size := by rw [← hW]; (first | omega | (simp; done) | (simp; omega))
            replace hl_M : w.heap.size < W3.heap.size := by rw [← hW]; (first | omega | (simp; done) | (simp; omega))
            replace HP := Lib.hid (HP.out.below HL_W3.out)
            replace HI := Lib.hid (HI.out.below HL_W3.out)
            replace HC := Lib.hid (HC.out.below HL_W3.out)
            replace HQ := Lib.hid (HQ.out.below HL_W3.out)
            clear HL_W3
            clear hW
            go_loopw [49] (fun i wr => ∃ k : Nat, k ≤ I ∧ i = .int .i64 k ∧ W3 = wr) (fun i _ => I - (intOf i).toNat)
            case atStart => exact ⟨0, Nat.zero_le _, rfl, rfl⟩
            case round =>
              obtain ⟨k, hk, rfl, rfl⟩ := hrel
              by_cases hkn : k < I
              · obtain ⟨b, off, rfl, hcc⟩ := HQ.out.2.2 (by omega)
                have hcell := hcc k hkn
                clear hcc
                have hix0 : (0 : Int) ≤ (k : Int) := by omega
                have hix1 : (k : Int) < (I : Int) := by omega
                go_wp2_with fail
                go_roundw
                case rel => exact ⟨k + 1, by omega, by go_num, by first | rfl | trivial⟩
                case measure => simp [intOf]; omega
              · obtain rfl : k = I := by omega
                go_wp2_with fail
                go_loopw [63] (fun i wr => ∃ j : Nat, j ≤ R ∧ i = .int .i64 j ∧ Hid (∀ x, x < j → ∀ y, y < k → -2 ≤ z x y ∧ z x y ≤ 1) ∧ W3 = wr) (fun i _ => R - (intOf i).toNat)
                case atStart => exact ⟨0, Nat.zero_le _, rfl, Lib.hid (fun j hj => by omega), rfl⟩
                case round =>
                  obtain ⟨j, hj, rfl, hin, rfl⟩ := hrel
                  by_cases hjn : j < R
                  · obtain ⟨b, off, rfl, hcc⟩ := HC.out.2.2 (by omega)
                    obtain ⟨hcell, hrow⟩ := hcc j hjn
                    rw [HRN.out j hjn] at hcell hrow
                    have HROW := Lib.hid hrow
                    have r1 := hrow.1
                    have r2 := hrow.2.1
                    unfold maxLen at r2
                    clear hcc hrow
                    have hix0 : (0 : Int) ≤ (j : Int) := by omega
                    have hix1 : (j : Int) < (R : Int) := by omega
                    go_wp2_with fail
                    go_loopw [69] (fun i wr => ∃ m : Nat, m ≤ k ∧ i = .int .i64 m ∧ Hid (∀ y, y < m → -2 ≤ z j y ∧ z j y ≤ 1) ∧ W3 = wr) (fun i _ => k - (intOf i).toNat)
                    case atStart => exact ⟨0, Nat.zero_le _, rfl, Lib.hid (fun j hj => by omega), rfl⟩
                    case round =>
                      obtain ⟨m, hm, rfl, hiw, rfl⟩ := hrel
                      by_cases hmn : m < k
                      · obtain ⟨b2, off2, hra, hc2⟩ := HROW.out.2.2 (by omega)
                        rw [hra] at hcell
                        have hcell2 := hc2 m hmn
                        obtain ⟨b3', off3, hqa, hc3⟩ := HQ.out.2.2 (by omega)
                        have hcell3 := hc3 m hmn
                        obtain ⟨v, hv⟩ : ∃ v, z j m = v := ⟨_, rfl⟩
                        rw [hv] at hcell2
                        have HV := Lib.hid hv
                        clear hc2 hc3 hv
                        have hmz0 : (0 : Int) ≤ (m : Int) := by omega
                        have hmz1 : (m : Int) < (k : Int) := by omega
                        have HRA := Lib.hid hra
                        subst hqa
                        rw [hra]
                        clear hra
                        by_cases v1 : v = -1
                        · subst v1
                          have HIN := Lib.hid (all_lt_succ hiw.out (show -2 ≤ z j m ∧ z j m ≤ 1 by rw [HV.out]; omega))
                          go_wp2_with fail
                          go_roundw
                          case rel => exact ⟨m + 1, by omega, by go_num, HIN, by first | rfl | trivial⟩
                          case measure => simp [intOf]; omega
                        · by_cases v2 : v = -2
                          · subst v2
                            have HIN := Lib.hid (all_lt_succ hiw.out (show -2 ≤ z j m ∧ z j m ≤ 1 by rw [HV.out]; omega))
                            go_wp2_with fail
                            go_roundw
                            case rel => exact ⟨m + 1, by omega, by go_num, HIN, by first | rfl | trivial⟩
                            case measure => simp [intOf]; omega
                          · have v1b : (v == -1) = false := by simp; omega
                            have v2b : (v == -2) = false := by simp; omega
                            have v1c : (v != -1) = true := by simp; omega
                            have v2c : (v != -2) = true := by simp; omega
                            by_cases v3 : v < 0
                            · go_wp2_with fail
                              refine bodyPost_ret (v := .int .i64 3) (by simp [results, Tryd.results22, go_sem]) rfl ⟨3, rfl, ⟨fun h => absurd h (by decide), fun h => by have h9 := h.2.2.2.2.2.2 j hjn m hmn; rw [HV.out] at h9; omega⟩, HB.out⟩
                            · by_cases v4 : 2 ≤ v
                              · go_wp2_with fail
                                refine bodyPost_ret (v := .int .i64 3) (by simp [results, Tryd.results22, go_sem]) rfl ⟨3, rfl, ⟨fun h => absurd h (by decide), fun h => by have h9 := h.2.2.2.2.2.2 j hjn m hmn; rw [HV.out] at h9; omega⟩, HB.out⟩
                              · have HIN := Lib.hid (all_lt_succ hiw.out (show -2 ≤ z j m ∧ z j m ≤ 1 by rw [HV.out]; omega))
                                go_wp2_with fail
                                go_roundw
                                case rel => exact ⟨m + 1, by omega, by go_num, HIN, by first | rfl | trivial⟩
                                case measure => simp [intOf]; omega
                      · obtain rfl : m = k := by omega
                        have HIN2 := Lib.hid (all_lt_succ (Q := fun x => ∀ y, y < m → -2 ≤ z x y ∧ z x y ≤ 1) hin.out hiw.out)
                        go_wp2_with fail
                        go_roundw
                        case rel => exact ⟨j + 1, by omega, by go_num, HIN2, by first | rfl | trivial⟩
                        case measure => simp [intOf]; omega
                  · obtain rfl : j = R := by omega
                    go_wp2_with fail
                    refine bodyPost_ret (v := .int .i64 0) (by simp [results, Tryd.results22, go_sem]) rfl ⟨0, rfl, ⟨fun _ => ⟨hP, hI, risB_true.1 E1.out, risB_true.1 E2.out, HRP.out, HRN.out, hin.out⟩, fun _ => rfl⟩, HB.out⟩
          · have E3 := Lib.hid e3
            clear e3
            refine (xshaped_any _ _ _ _ _ _ _ _ _ zp zi _ _ _ z _ HP.out HI.out HC.out).mono ?_
            rw [E3.out]
            rintro e wc ⟨rfl, hb⟩
            have hs_wc : W2.heap.size ≤ wc.heap.size := hb.size
            replace k_M_0 : wc.cell? ⟨w.heap.size, 0, none⟩ = some (.slice pa P pc) := (hb.cell (p := ⟨w.heap.size, 0, none⟩) hl_M).trans k_M_0
            replace k_M_1 : wc.cell? ⟨w.heap.size, 1, none⟩ = some (.slice ia I ic) := (hb.cell (p := ⟨w.heap.size, 1, none⟩) hl_M).trans k_M_1
            replace k_M_2 : wc.cell? ⟨w.heap.size, 2, none⟩ = some (.slice ca R cc) := (hb.cell (p := ⟨w.heap.size, 2, none⟩) hl_M).trans k_M_2
            replace f_M : ∀ o, wc.frozen? ⟨w.heap.size, o, none⟩ = false := fun o => (hb.frozen (p := ⟨w.heap.size, o, none⟩) hl_M).trans (f_M o)
            replace HX_M := Lib.hid (HX_M.out.below hb)
            replace HB := Lib.hid (HB.out.trans (hb.mono hs0))
            replace hs0 : w.heap.size ≤ wc.heap.size := Nat.le_trans hs0 hb.size
            replace hl_M : w.heap.size < wc.heap.size := Nat.lt_of_lt_of_le hl_M hb.size
            replace HP := Lib.hid (HP.out.below hb)
            replace HI := Lib.hid (HI.out.below hb)
            replace HC := Lib.hid (HC.out.below hb)
            replace HQ := Lib.hid (HQ.out.below hb)
            clear hb
            go_wp2_with fail
            refine bodyPost_ret (v := .int .i64 1) (by simp [results, Tryd.results22, go_sem]) rfl ⟨1, rfl, ⟨fun h => absurd h (by decide), fun h => absurd (shpB_true.2 ⟨h.2.2.2.2.1, h.2.2.2.2.2.1⟩) (by rw [E3.out]; decide)⟩, HB.out⟩
        · have E2 := Lib.hid e2
          clear e2
          refine (xrising_any _ _ _ _ _ HI.out).mono ?_
          rw [E2.out]
          rintro e wb ⟨rfl, hb⟩
          have hs_wb : W1.heap.size ≤ wb.heap.size := hb.size
          replace k_M_0 : wb.cell? ⟨w.heap.size, 0, none⟩ = some (.slice pa P pc) := (hb.cell (p := ⟨w.heap.size, 0, none⟩) hl_M).trans k_M_0
          replace k_M_1 : wb.cell? ⟨w.heap.size, 1, none⟩ = some (.slice ia I ic) := (hb.cell (p := ⟨w.heap.size, 1, none⟩) hl_M).trans k_M_1
          replace k_M_2 : wb.cell? ⟨w.heap.size, 2, none⟩ = some (.slice ca R cc) := (hb.cell (p := ⟨w.heap.size, 2, none⟩) hl_M).trans k_M_2
          replace f_M : ∀ o, wb.frozen? ⟨w.heap.size, o, none⟩ = false := fun o => (hb.frozen (p := ⟨w.heap.size, o, none⟩) hl_M).trans (f_M o)
          replace HX_M := Lib.hid (HX_M.out.below hb)
          replace HB := Lib.hid (HB.out.trans (hb.mono hs0))
          replace hs0 : w.heap.size ≤ wb.heap.size := Nat.le_trans hs0 hb.size
          replace hl_M : w.heap.size < wb.heap.size := Nat.lt_of_lt_of_le hl_M hb.size
          replace HP := Lib.hid (HP.out.below hb)
          replace HI := Lib.hid (HI.out.below hb)
          replace HC := Lib.hid (HC.out.below hb)
          replace HQ := Lib.hid (HQ.out.below hb)
          clear hb
          go_wp2_with fail
          refine bodyPost_ret (v := .int .i64 23) (by simp [results, Tryd.results22, go_sem]) rfl ⟨23, rfl, ⟨fun h => absurd h (by decide), fun h => absurd (risB_true.2 h.2.2.2.1) (by rw [E2.out]; decide)⟩, HB.out⟩
      · have E1 := Lib.hid e1
        clear e1
        refine (xrising_any _ _ _ _ _ HP.out).mono ?_
        rw [E1.out]
        rintro e wa ⟨rfl, hb⟩
        have hs_wa : W0.heap.size ≤ wa.heap.size := hb.size
        replace k_M_0 : wa.cell? ⟨w.heap.size, 0, none⟩ = some (.slice pa P pc) := (hb.cell (p := ⟨w.heap.size, 0, none⟩) hl_M).trans k_M_0
        replace k_M_1 : wa.cell? ⟨w.heap.size, 1, none⟩ = some (.slice ia I ic) := (hb.cell (p := ⟨w.heap.size, 1, none⟩) hl_M).trans k_M_1
        replace k_M_2 : wa.cell? ⟨w.heap.size, 2, none⟩ = some (.slice ca R cc) := (hb.cell (p := ⟨w.heap.size, 2, none⟩) hl_M).trans k_M_2
        replace f_M : ∀ o, wa.frozen? ⟨w.heap.size, o, none⟩ = false := fun o => (hb.frozen (p := ⟨w.heap.size, o, none⟩) hl_M).trans (f_M o)
        replace HX_M := Lib.hid (HX_M.out.below hb)
        replace HB := Lib.hid (HB.out.trans (hb.mono hs0))
        replace hs0 : w.heap.size ≤ wa.heap.size := Nat.le_trans hs0 hb.size
        replace hl_M : w.heap.size < wa.heap.size := Nat.lt_of_lt_of_le hl_M hb.size
        replace HP := Lib.hid (HP.out.below hb)
        replace HI := Lib.hid (HI.out.below hb)
        replace HC := Lib.hid (HC.out.below hb)
        replace HQ := Lib.hid (HQ.out.below hb)
        clear hb
        go_wp2_with fail
        refine bodyPost_ret (v := .int .i64 23) (by simp [results, Tryd.results22, go_sem]) rfl ⟨23, rfl, ⟨fun h => absurd h (by decide), fun h => absurd (risB_true.2 h.2.2.1) (by rw [E1.out]; decide)⟩, HB.out⟩
    · go_enter Tryd.func22, Tryd.ntmps22
      go_wp2_with fail
      refine bodyPost_ret (v := .int .i64 5) (by simp [results, Tryd.results22, go_sem]) rfl ⟨5, rfl, ⟨fun h => absurd h (by decide), fun h => absurd h.2.1 hI⟩, bel1 _ _⟩
  · go_enter Tryd.func22, Tryd.ntmps22
    go_wp2_with fail
    refine bodyPost_ret (v := .int .i64 5) (by simp [results, Tryd.results22, go_sem]) rfl ⟨5, rfl, ⟨fun h => absurd h (by decide), fun h => absurd h.1 hP⟩, bel1 _ _⟩

end Go.Proofs.YtmecipfdelgfbaaDoor
