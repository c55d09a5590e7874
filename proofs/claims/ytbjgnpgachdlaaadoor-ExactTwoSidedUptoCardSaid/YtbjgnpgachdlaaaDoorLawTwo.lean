/- ExactTwoSided returns true for every input whose numbers have at most 2^21 limbs (the walk). -/
import Derived.Test.YtbjgnpgachdlaaaDoorJoG
namespace Go.Proofs.YtbjgnpgachdlaaaDoor
open Go.RowKit

theorem low_up (q : Nat → Rat) (n K : Nat) (hK : K ≤ n) (hv : sQ q n = 1) : sQ q K + upQ q n K = 1 := by
  have h := sQ_append q K (n - K)
  rw [show K + (n - K) = n by omega, hv] at h
  unfold upQ; exact h.symm
theorem both_le (q : Nat → Rat) (n k : Nat) (h : ∀ i, i < n → 0 ≤ q i) (hv : sQ q n = 1) : bothQ q n k ≤ 1 := by
  rw [← hv]
  exact sQ_le (fun i hi => by by_cases hh : q i ≤ q k; (· rw [if_pos hh]; exact Rat.le_refl); (· rw [if_neg hh]; exact h i hi))
theorem both_ge (q : Nat → Rat) (n k : Nat) (h : ∀ i, i < n → 0 ≤ q i) (hk : k < n) : q k ≤ bothQ q n k := by
  have := sQ_one_le (f := fun i => if q i ≤ q k then q i else 0) (n := n) (k := k) (fun i hi => by by_cases hh : q i ≤ q k; (· rw [if_pos hh]; exact h i hi); (· rw [if_neg hh]; exact Rat.le_refl)) hk
  rw [if_pos Rat.le_refl] at this
  exact this
theorem both_top (q : Nat → Rat) (n k : Nat) (hv : sQ q n = 1) (ht : ∀ i, i < n → q i ≤ q k) : bothQ q n k = 1 := by
  rw [← hv]
  exact sQ_congr (fun i hi => by rw [if_pos (ht i hi)])
theorem up_end (q : Nat → Rat) (n : Nat) : upQ q n n = 0 := by unfold upQ; rw [Nat.sub_self]; rfl
/-- no one of the first j is greater than number k -/
def topB (q : Nat → Rat) (k : Nat) : Nat → Bool
  | 0 => true
  | j + 1 => topB q k j && decide (q j ≤ q k)
theorem topB_true {q : Nat → Rat} {k : Nat} : ∀ {j : Nat}, topB q k j = true → ∀ i, i < j → q i ≤ q k
  | 0, _, i, hi => by omega
  | j + 1, h, i, hi => by
    simp only [topB, Bool.and_eq_true, decide_eq_true_eq] at h
    rcases Nat.lt_or_ge i j with h1 | h1
    · exact topB_true h.1 i h1
    · obtain rfl : i = j := by omega
      exact h.2
theorem rat_one7 : frq 1 1 = 1 := by decide +kernel
theorem cmp_geq (p q : Rat) (h : q ≤ p) : decide (0 ≤ cmpQ p q) = true := by
  unfold cmpQ
  rw [if_neg (by grind)]
  split <;> decide
theorem cmp_lt_one (p : Rat) (h : p ≤ 1) : decide (cmpQ p 1 ≤ 0) = true := by rw [cmp_le]; exact decide_eq_true h
theorem cmp_beq_one (p : Rat) (h : p = 1) : (cmpQ p 1 == 0) = true := by rw [h, cmpQ_self]; rfl

set_option maxHeartbeats 4000000 in
theorem two_no {N : Nat} (a : Option Addr) (n cap : Nat) (q : Nat → Rat) (L k : Nat) (w : World) (hN : N ≤ w.heap.size) (h : Rs N w a n cap q L) (hL : L ≤ 2097152) (htab : TabW w) (hk : k ≤ 255) (hv : valid q n = false) :
    Calls Tryd.prog 7 #[.slice a n cap, .int .u8 k] w fun e w' => e = .returned (.bool true) ∧ Below w.heap.size w w' := by
  have HV := Lib.hid hv
  clear hv
  have hN0 := hN
  have HT := Lib.hid htab
  have HA := Lib.hid h
  have bc1 := h.1
  have bc2 := h.2.1
  unfold maxLen at bc2
  clear htab h
  have HB := Lib.hid (Below.refl w.heap.size w)
  go_enter Tryd.func7, Tryd.ntmps7
  go_wp2_with fail
  refine calls_name fun W0 hW => ?_
  have hN_W0 : N ≤ W0.heap.size := by rw [← hW]; (first | omega | (simp; done) | (simp; omega))
  have hs_W0 : w.heap.size ≤ W0.heap.size := by rw [← hW]; (first | omega | (simp; done) | (simp; omega))
  have hs0_W0 : w.heap.size ≤ W0.heap.size := by rw [← hW]; (first | omega | (simp; done) | (simp; omega))
  have HB_W0 := Lib.hid (show Below w.heap.size w W0 by rw [← hW]; (repeat' (first | with_reducible exact Below.refl _ _ | with_reducible exact HB.out | (with_reducible refine Below.alloc ?_ ?_ _; rotate_left; (focus (first | omega | (simp; done) | (simp; omega)))) | with_reducible apply Below.drew | (with_reducible refine Below.setCell ?_ ?_ _; rotate_left; (focus (first | omega | (simp; done) | (simp; omega)))))))
  have HL_W0 := Lib.hid (show Below w.heap.size w W0 by rw [← hW]; (repeat' (first | with_reducible exact Below.refl _ _ | (with_reducible refine Below.alloc ?_ ?_ _; rotate_left; (focus (first | omega | (simp; done) | (simp; omega)))) | with_reducible apply Below.drew | (with_reducible refine Below.setCell ?_ ?_ _; rotate_left; (focus (first | omega | (simp; done) | (simp; omega)))))))
  have HT_W0 := Lib.hid (HT.out.below HL_W0.out)
  have HA_W0 := Lib.hid (HA.out.below HL_W0.out)
  clear HL_W0
  clear hW
  clear HB hN
  have hN := hN_W0
  have HB := HB_W0
  have hs0 := hs0_W0
  clear hN_W0 HB_W0 hs0_W0
  clear HT HA
  have HT := HT_W0
  have HA := HA_W0
  clear HT_W0 HA_W0
  refine (Lower_no (N := N) _ _ _ q L _ hN HA.out hL HV.out (k : Int)).mono ?_
  rintro e wa ⟨rfl, hb⟩
  have HT_wa := Lib.hid (HT.out.below hb)
  have HA_wa := Lib.hid (HA.out.below hb)
  have hN_wa : N ≤ wa.heap.size := Nat.le_trans hN hb.size
  have hs_wa : W0.heap.size ≤ wa.heap.size := hb.size
  have hs0_wa : w.heap.size ≤ wa.heap.size := Nat.le_trans hs0 hb.size
  have HB_wa := Lib.hid (HB.out.trans (hb.mono hs0))
  clear hb
  clear HB hN hs0
  have hN := hN_wa
  have HB := HB_wa
  have hs0 := hs0_wa
  clear hN_wa HB_wa hs0_wa
  clear HT HA
  have HT := HT_wa
  have HA := HA_wa
  clear HT_wa HA_wa
  go_wp2_with fail
  refine calls_name fun W1 hW => ?_
  have hN_W1 : N ≤ W1.heap.size := by rw [← hW]; (first | omega | (simp; done) | (simp; omega))
  have hs_W1 : wa.heap.size ≤ W1.heap.size := by rw [← hW]; (first | omega | (simp; done) | (simp; omega))
  have hs0_W1 : w.heap.size ≤ W1.heap.size := by rw [← hW]; (first | omega | (simp; done) | (simp; omega))
  have hl_A_W1 : wa.heap.size < W1.heap.size := by rw [← hW]; (first | omega | (simp; done) | (simp; omega))
  have k_A_0_W1 : W1.cell? ⟨wa.heap.size, 0, none⟩ = some (.bool false) := by rw [← hW]; (first | (go_simp; done) | (simp; done) | (simp [go_sem]; done) | (simp [go_sem]; done))
  have k_A_1_W1 : W1.cell? ⟨wa.heap.size, 1, none⟩ = some (.slice none 0 0) := by rw [← hW]; (first | (go_simp; done) | (simp; done) | (simp [go_sem]; done) | (simp [go_sem]; done))
  have k_A_2_W1 : W1.cell? ⟨wa.heap.size, 2, none⟩ = some (.slice none 0 0) := by rw [← hW]; (first | (go_simp; done) | (simp; done) | (simp [go_sem]; done) | (simp [go_sem]; done))
  have f_A_W1 : ∀ o, W1.frozen? ⟨wa.heap.size, o, none⟩ = false := by intro o; rw [← hW]; (first | (go_simp; done) | (simp; done) | (simp [go_sem]; done) | (simp [go_sem]; done))
  have HX_A_W1 := Lib.hid (show Bn W1 (wa.heap.size) by rw [← hW]; (repeat' (first | with_reducible exact Kp.refl _ _ | with_reducible apply Kp.alloc | with_reducible apply Kp.drew | (with_reducible refine Kp.put ?_ ?_ ?_ _; rotate_left; (focus (first | omega | (simp; done) | (simp; omega))); rotate_left) | (with_reducible refine Bn.new _ _ _ _ ?_ ?_; (focus (first | omega | (simp; done) | (simp; omega))); decide) | with_reducible apply Bn.alloc | with_reducible apply Bn.drew | with_reducible apply Bn.set)))
  have HB_W1 := Lib.hid (show Below w.heap.size w W1 by rw [← hW]; (repeat' (first | with_reducible exact Below.refl _ _ | with_reducible exact HB.out | (with_reducible refine Below.alloc ?_ ?_ _; rotate_left; (focus (first | omega | (simp; done) | (simp; omega)))) | with_reducible apply Below.drew | (with_reducible refine Below.setCell ?_ ?_ _; rotate_left; (focus (first | omega | (simp; done) | (simp; omega)))))))
  have HL_W1 := Lib.hid (show Below wa.heap.size wa W1 by rw [← hW]; (repeat' (first | with_reducible exact Below.refl _ _ | (with_reducible refine Below.alloc ?_ ?_ _; rotate_left; (focus (first | omega | (simp; done) | (simp; omega)))) | with_reducible apply Below.drew | (with_reducible refine Below.setCell ?_ ?_ _; rotate_left; (focus (first | omega | (simp; done) | (simp; omega)))))))
  have HT_W1 := Lib.hid (HT.out.below HL_W1.out)
  have HA_W1 := Lib.hid (HA.out.below HL_W1.out)
  clear HL_W1
  clear hW
  clear HB hN hs0
  have hN := hN_W1
  have HB := HB_W1
  have hs0 := hs0_W1
  have hl_A := hl_A_W1
  have f_A := f_A_W1
  have HX_A := HX_A_W1
  have k_A_0 := k_A_0_W1
  have k_A_1 := k_A_1_W1
  have k_A_2 := k_A_2_W1
  clear hN_W1 HB_W1 hs0_W1 hl_A_W1 f_A_W1 HX_A_W1 k_A_0_W1 k_A_1_W1 k_A_2_W1
  clear HT HA
  have HT := HT_W1
  have HA := HA_W1
  clear HT_W1 HA_W1
  refine (Upper_no (N := N) _ _ _ q L _ hN HA.out hL HV.out ((k : Int) + 1)).mono ?_
  rintro e wb ⟨rfl, hb⟩
  have HT_wb := Lib.hid (HT.out.below hb)
  have HA_wb := Lib.hid (HA.out.below hb)
  have hN_wb : N ≤ wb.heap.size := Nat.le_trans hN hb.size
  have hs_wb : W1.heap.size ≤ wb.heap.size := hb.size
  have hs0_wb : w.heap.size ≤ wb.heap.size := Nat.le_trans hs0 hb.size
  have hl_A_wb : wa.heap.size < wb.heap.size := Nat.lt_of_lt_of_le hl_A hb.size
  have k_A_0_wb : wb.cell? ⟨wa.heap.size, 0, none⟩ = some (.bool false) := (hb.cell (p := ⟨wa.heap.size, 0, none⟩) hl_A).trans k_A_0
  have k_A_1_wb : wb.cell? ⟨wa.heap.size, 1, none⟩ = some (.slice none 0 0) := (hb.cell (p := ⟨wa.heap.size, 1, none⟩) hl_A).trans k_A_1
  have k_A_2_wb : wb.cell? ⟨wa.heap.size, 2, none⟩ = some (.slice none 0 0) := (hb.cell (p := ⟨wa.heap.size, 2, none⟩) hl_A).trans k_A_2
  have f_A_wb : ∀ o, wb.frozen? ⟨wa.heap.size, o, none⟩ = false := fun o => (hb.frozen (p := ⟨wa.heap.size, o, none⟩) hl_A).trans (f_A o)
  have HX_A_wb := Lib.hid (HX_A.out.below hb)
  have HB_wb := Lib.hid (HB.out.trans (hb.mono hs0))
  clear hb
  clear hl_A f_A HX_A k_A_0 k_A_1 k_A_2 HB hN hs0
  have hN := hN_wb
  have HB := HB_wb
  have hs0 := hs0_wb
  have hl_A := hl_A_wb
  have f_A := f_A_wb
  have HX_A := HX_A_wb
  have k_A_0 := k_A_0_wb
  have k_A_1 := k_A_1_wb
  have k_A_2 := k_A_2_wb
  clear hN_wb HB_wb hs0_wb hl_A_wb f_A_wb HX_A_wb k_A_0_wb k_A_1_wb k_A_2_wb
  clear HT HA
  have HT := HT_wb
  have HA := HA_wb
  clear HT_wb HA_wb
  go_wp2_with fail
  refine calls_name fun W2 hW => ?_
  have HL_W2 := Lib.hid (show Below wb.heap.size wb W2 by rw [← hW]; (repeat' (first | with_reducible exact Below.refl _ _ | (with_reducible refine Below.alloc ?_ ?_ _; rotate_left; (focus (first | omega | (simp; done) | (simp; omega)))) | with_reducible apply Below.drew | (with_reducible refine Below.setCell ?_ ?_ _; rotate_left; (focus (first | omega | (simp; done) | (simp; omega)))))))
  have hN_W2 : N ≤ W2.heap.size := by rw [← hW]; (first | omega | (simp; done) | (simp; omega))
  have hs_W2 : wb.heap.size ≤ W2.heap.size := by rw [← hW]; (first | omega | (simp; done) | (simp; omega))
  have hs0_W2 : w.heap.size ≤ W2.heap.size := by rw [← hW]; (first | omega | (simp; done) | (simp; omega))
  have hd_A_B : wa.heap.size < wb.heap.size := by omega
  have hl_A_W2 : wa.heap.size < W2.heap.size := by rw [← hW]; (first | omega | (simp; done) | (simp; omega))
  have k_A_0_W2 : W2.cell? ⟨wa.heap.size, 0, none⟩ = some (.bool false) := (HL_W2.out.cell (p := ⟨wa.heap.size, 0, none⟩) hl_A).trans k_A_0
  have k_A_1_W2 : W2.cell? ⟨wa.heap.size, 1, none⟩ = some (.slice none 0 0) := (HL_W2.out.cell (p := ⟨wa.heap.size, 1, none⟩) hl_A).trans k_A_1
  have k_A_2_W2 : W2.cell? ⟨wa.heap.size, 2, none⟩ = some (.slice none 0 0) := (HL_W2.out.cell (p := ⟨wa.heap.size, 2, none⟩) hl_A).trans k_A_2
  have f_A_W2 : ∀ o, W2.frozen? ⟨wa.heap.size, o, none⟩ = false := fun o => (HL_W2.out.frozen (p := ⟨wa.heap.size, o, none⟩) hl_A).trans (f_A o)
  have HX_A_W2 := Lib.hid (show Bn W2 (wa.heap.size) by rw [← hW]; (repeat' (first | with_reducible exact Kp.refl _ _ | with_reducible exact HX_A.out | with_reducible apply Kp.alloc | with_reducible apply Kp.drew | (with_reducible refine Kp.put ?_ ?_ ?_ _; rotate_left; (focus (first | omega | (simp; done) | (simp; omega))); rotate_left) | (with_reducible refine Bn.new _ _ _ _ ?_ ?_; (focus (first | omega | (simp; done) | (simp; omega))); decide) | with_reducible apply Bn.alloc | with_reducible apply Bn.drew | with_reducible apply Bn.set)))
  have hl_B_W2 : wb.heap.size < W2.heap.size := by rw [← hW]; (first | omega | (simp; done) | (simp; omega))
  have k_B_0_W2 : W2.cell? ⟨wb.heap.size, 0, none⟩ = some (.bool false) := by rw [← hW]; (first | (go_simp; done) | (simp; done) | (simp [go_sem]; done) | (simp [go_sem, k_A_0, k_A_1, k_A_2, f_A, hl_A]; done))
  have k_B_1_W2 : W2.cell? ⟨wb.heap.size, 1, none⟩ = some (.slice none 0 0) := by rw [← hW]; (first | (go_simp; done) | (simp; done) | (simp [go_sem]; done) | (simp [go_sem, k_A_0, k_A_1, k_A_2, f_A, hl_A]; done))
  have k_B_2_W2 : W2.cell? ⟨wb.heap.size, 2, none⟩ = some (.slice none 0 0) := by rw [← hW]; (first | (go_simp; done) | (simp; done) | (simp [go_sem]; done) | (simp [go_sem, k_A_0, k_A_1, k_A_2, f_A, hl_A]; done))
  have f_B_W2 : ∀ o, W2.frozen? ⟨wb.heap.size, o, none⟩ = false := by intro o; rw [← hW]; (first | (go_simp; done) | (simp; done) | (simp [go_sem]; done) | (simp [go_sem, k_A_0, k_A_1, k_A_2, f_A, hl_A]; done))
  have HX_B_W2 := Lib.hid (show Bn W2 (wb.heap.size) by rw [← hW]; (repeat' (first | with_reducible exact Kp.refl _ _ | with_reducible exact HX_A.out | with_reducible apply Kp.alloc | with_reducible apply Kp.drew | (with_reducible refine Kp.put ?_ ?_ ?_ _; rotate_left; (focus (first | omega | (simp; done) | (simp; omega))); rotate_left) | (with_reducible refine Bn.new _ _ _ _ ?_ ?_; (focus (first | omega | (simp; done) | (simp; omega))); decide) | with_reducible apply Bn.alloc | with_reducible apply Bn.drew | with_reducible apply Bn.set)))
  have HB_W2 := Lib.hid (show Below w.heap.size w W2 by rw [← hW]; (repeat' (first | with_reducible exact Below.refl _ _ | with_reducible exact HB.out | (with_reducible refine Below.alloc ?_ ?_ _; rotate_left; (focus (first | omega | (simp; done) | (simp; omega)))) | with_reducible apply Below.drew | (with_reducible refine Below.setCell ?_ ?_ _; rotate_left; (focus (first | omega | (simp; done) | (simp; omega)))))))
  have HT_W2 := Lib.hid (HT.out.below HL_W2.out)
  have HA_W2 := Lib.hid (HA.out.below HL_W2.out)
  clear HL_W2
  clear hW
  clear hl_A f_A HX_A k_A_0 k_A_1 k_A_2 HB hN hs0
  have hN := hN_W2
  have HB := HB_W2
  have hs0 := hs0_W2
  have hl_A := hl_A_W2
  have f_A := f_A_W2
  have HX_A := HX_A_W2
  have k_A_0 := k_A_0_W2
  have k_A_1 := k_A_1_W2
  have k_A_2 := k_A_2_W2
  have hl_B := hl_B_W2
  have f_B := f_B_W2
  have HX_B := HX_B_W2
  have k_B_0 := k_B_0_W2
  have k_B_1 := k_B_1_W2
  have k_B_2 := k_B_2_W2
  clear hN_W2 HB_W2 hs0_W2 hl_A_W2 f_A_W2 HX_A_W2 k_A_0_W2 k_A_1_W2 k_A_2_W2 hl_B_W2 f_B_W2 HX_B_W2 k_B_0_W2 k_B_1_W2 k_B_2_W2
  clear HT HA
  have HT := HT_W2
  have HA := HA_W2
  clear HT_W2 HA_W2
  refine (Both_no (N := N) _ _ _ q L _ hN HA.out hL HV.out (k : Int)).mono ?_
  rintro e wc ⟨rfl, hb⟩
  have HT_wc := Lib.hid (HT.out.below hb)
  have HA_wc := Lib.hid (HA.out.below hb)
  have hN_wc : N ≤ wc.heap.size := Nat.le_trans hN hb.size
  have hs_wc : W2.heap.size ≤ wc.heap.size := hb.size
  have hs0_wc : w.heap.size ≤ wc.heap.size := Nat.le_trans hs0 hb.size
  have hl_A_wc : wa.heap.size < wc.heap.size := Nat.lt_of_lt_of_le hl_A hb.size
  have k_A_0_wc : wc.cell? ⟨wa.heap.size, 0, none⟩ = some (.bool false) := (hb.cell (p := ⟨wa.heap.size, 0, none⟩) hl_A).trans k_A_0
  have k_A_1_wc : wc.cell? ⟨wa.heap.size, 1, none⟩ = some (.slice none 0 0) := (hb.cell (p := ⟨wa.heap.size, 1, none⟩) hl_A).trans k_A_1
  have k_A_2_wc : wc.cell? ⟨wa.heap.size, 2, none⟩ = some (.slice none 0 0) := (hb.cell (p := ⟨wa.heap.size, 2, none⟩) hl_A).trans k_A_2
  have f_A_wc : ∀ o, wc.frozen? ⟨wa.heap.size, o, none⟩ = false := fun o => (hb.frozen (p := ⟨wa.heap.size, o, none⟩) hl_A).trans (f_A o)
  have HX_A_wc := Lib.hid (HX_A.out.below hb)
  have hl_B_wc : wb.heap.size < wc.heap.size := Nat.lt_of_lt_of_le hl_B hb.size
  have k_B_0_wc : wc.cell? ⟨wb.heap.size, 0, none⟩ = some (.bool false) := (hb.cell (p := ⟨wb.heap.size, 0, none⟩) hl_B).trans k_B_0
  have k_B_1_wc : wc.cell? ⟨wb.heap.size, 1, none⟩ = some (.slice none 0 0) := (hb.cell (p := ⟨wb.heap.size, 1, none⟩) hl_B).trans k_B_1
  have k_B_2_wc : wc.cell? ⟨wb.heap.size, 2, none⟩ = some (.slice none 0 0) := (hb.cell (p := ⟨wb.heap.size, 2, none⟩) hl_B).trans k_B_2
  have f_B_wc : ∀ o, wc.frozen? ⟨wb.heap.size, o, none⟩ = false := fun o => (hb.frozen (p := ⟨wb.heap.size, o, none⟩) hl_B).trans (f_B o)
  have HX_B_wc := Lib.hid (HX_B.out.below hb)
  have HB_wc := Lib.hid (HB.out.trans (hb.mono hs0))
  clear hb
  clear hl_A f_A HX_A k_A_0 k_A_1 k_A_2 hl_B f_B HX_B k_B_0 k_B_1 k_B_2 HB hN hs0
  have hN := hN_wc
  have HB := HB_wc
  have hs0 := hs0_wc
  have hl_A := hl_A_wc
  have f_A := f_A_wc
  have HX_A := HX_A_wc
  have k_A_0 := k_A_0_wc
  have k_A_1 := k_A_1_wc
  have k_A_2 := k_A_2_wc
  have hl_B := hl_B_wc
  have f_B := f_B_wc
  have HX_B := HX_B_wc
  have k_B_0 := k_B_0_wc
  have k_B_1 := k_B_1_wc
  have k_B_2 := k_B_2_wc
  clear hN_wc HB_wc hs0_wc hl_A_wc f_A_wc HX_A_wc k_A_0_wc k_A_1_wc k_A_2_wc hl_B_wc f_B_wc HX_B_wc k_B_0_wc k_B_1_wc k_B_2_wc
  clear HT HA
  have HT := HT_wc
  have HA := HA_wc
  clear HT_wc HA_wc
  go_wp2_with fail
  refine calls_name fun W3 hW => ?_
  have HL_W3 := Lib.hid (show Below wc.heap.size wc W3 by rw [← hW]; (repeat' (first | with_reducible exact Below.refl _ _ | (with_reducible refine Below.alloc ?_ ?_ _; rotate_left; (focus (first | omega | (simp; done) | (simp; omega)))) | with_reducible apply Below.drew | (with_reducible refine Below.setCell ?_ ?_ _; rotate_left; (focus (first | omega | (simp; done) | (simp; omega)))))))
  have hN_W3 : N ≤ W3.heap.size := by rw [← hW]; (first | omega | (simp; done) | (simp; omega))
  have hs_W3 : wc.heap.size ≤ W3.heap.size := by rw [← hW]; (first | omega | (simp; done) | (simp; omega))
  have hs0_W3 : w.heap.size ≤ W3.heap.size := by rw [← hW]; (first | omega | (simp; done) | (simp; omega))
  have hd_A_C : wa.heap.size < wc.heap.size := by omega
  have hd_B_C : wb.heap.size < wc.heap.size := by omega
  have hl_A_W3 : wa.heap.size < W3.heap.size := by rw [← hW]; (first | omega | (simp; done) | (simp; omega))
  have k_A_0_W3 : W3.cell? ⟨wa.heap.size, 0, none⟩ = some (.bool false) := (HL_W3.out.cell (p := ⟨wa.heap.size, 0, none⟩) hl_A).trans k_A_0
  have k_A_1_W3 : W3.cell? ⟨wa.heap.size, 1, none⟩ = some (.slice none 0 0) := (HL_W3.out.cell (p := ⟨wa.heap.size, 1, none⟩) hl_A).trans k_A_1
  have k_A_2_W3 : W3.cell? ⟨wa.heap.size, 2, none⟩ = some (.slice none 0 0) := (HL_W3.out.cell (p := ⟨wa.heap.size, 2, none⟩) hl_A).trans k_A_2
  have f_A_W3 : ∀ o, W3.frozen? ⟨wa.heap.size, o, none⟩ = false := fun o => (HL_W3.out.frozen (p := ⟨wa.heap.size, o, none⟩) hl_A).trans (f_A o)
  have HX_A_W3 := Lib.hid (show Bn W3 (wa.heap.size) by rw [← hW]; (repeat' (first | with_reducible exact Kp.refl _ _ | with_reducible exact HX_A.out | with_reducible exact HX_B.out | with_reducible apply Kp.alloc | with_reducible apply Kp.drew | (with_reducible refine Kp.put ?_ ?_ ?_ _; rotate_left; (focus (first | omega | (simp; done) | (simp; omega))); rotate_left) | (with_reducible refine Bn.new _ _ _ _ ?_ ?_; (focus (first | omega | (simp; done) | (simp; omega))); decide) | with_reducible apply Bn.alloc | with_reducible apply Bn.drew | with_reducible apply Bn.set)))
  have hl_B_W3 : wb.heap.size < W3.heap.size := by rw [← hW]; (first | omega | (simp; done) | (simp; omega))
  have k_B_0_W3 : W3.cell? ⟨wb.heap.size, 0, none⟩ = some (.bool false) := (HL_W3.out.cell (p := ⟨wb.heap.size, 0, none⟩) hl_B).trans k_B_0
  have k_B_1_W3 : W3.cell? ⟨wb.heap.size, 1, none⟩ = some (.slice none 0 0) := (HL_W3.out.cell (p := ⟨wb.heap.size, 1, none⟩) hl_B).trans k_B_1
  have k_B_2_W3 : W3.cell? ⟨wb.heap.size, 2, none⟩ = some (.slice none 0 0) := (HL_W3.out.cell (p := ⟨wb.heap.size, 2, none⟩) hl_B).trans k_B_2
  have f_B_W3 : ∀ o, W3.frozen? ⟨wb.heap.size, o, none⟩ = false := fun o => (HL_W3.out.frozen (p := ⟨wb.heap.size, o, none⟩) hl_B).trans (f_B o)
  have HX_B_W3 := Lib.hid (show Bn W3 (wb.heap.size) by rw [← hW]; (repeat' (first | with_reducible exact Kp.refl _ _ | with_reducible exact HX_A.out | with_reducible exact HX_B.out | with_reducible apply Kp.alloc | with_reducible apply Kp.drew | (with_reducible refine Kp.put ?_ ?_ ?_ _; rotate_left; (focus (first | omega | (simp; done) | (simp; omega))); rotate_left) | (with_reducible refine Bn.new _ _ _ _ ?_ ?_; (focus (first | omega | (simp; done) | (simp; omega))); decide) | with_reducible apply Bn.alloc | with_reducible apply Bn.drew | with_reducible apply Bn.set)))
  have hl_C_W3 : wc.heap.size < W3.heap.size := by rw [← hW]; (first | omega | (simp; done) | (simp; omega))
  have k_C_0_W3 : W3.cell? ⟨wc.heap.size, 0, none⟩ = some (.bool false) := by rw [← hW]; (first | (go_simp; done) | (simp; done) | (simp [go_sem]; done) | (simp [go_sem, k_A_0, k_A_1, k_A_2, k_B_0, k_B_1, k_B_2, f_A, f_B, hl_A, hl_B]; done))
  have k_C_1_W3 : W3.cell? ⟨wc.heap.size, 1, none⟩ = some (.slice none 0 0) := by rw [← hW]; (first | (go_simp; done) | (simp; done) | (simp [go_sem]; done) | (simp [go_sem, k_A_0, k_A_1, k_A_2, k_B_0, k_B_1, k_B_2, f_A, f_B, hl_A, hl_B]; done))
  have k_C_2_W3 : W3.cell? ⟨wc.heap.size, 2, none⟩ = some (.slice none 0 0) := by rw [← hW]; (first | (go_simp; done) | (simp; done) | (simp [go_sem]; done) | (simp [go_sem, k_A_0, k_A_1, k_A_2, k_B_0, k_B_1, k_B_2, f_A, f_B, hl_A, hl_B]; done))
  have f_C_W3 : ∀ o, W3.frozen? ⟨wc.heap.size, o, none⟩ = false := by intro o; rw [← hW]; (first | (go_simp; done) | (simp; done) | (simp [go_sem]; done) | (simp [go_sem, k_A_0, k_A_1, k_A_2, k_B_0, k_B_1, k_B_2, f_A, f_B, hl_A, hl_B]; done))
  have HX_C_W3 := Lib.hid (show Bn W3 (wc.heap.size) by rw [← hW]; (repeat' (first | with_reducible exact Kp.refl _ _ | with_reducible exact HX_A.out | with_reducible exact HX_B.out | with_reducible apply Kp.alloc | with_reducible apply Kp.drew | (with_reducible refine Kp.put ?_ ?_ ?_ _; rotate_left; (focus (first | omega | (simp; done) | (simp; omega))); rotate_left) | (with_reducible refine Bn.new _ _ _ _ ?_ ?_; (focus (first | omega | (simp; done) | (simp; omega))); decide) | with_reducible apply Bn.alloc | with_reducible apply Bn.drew | with_reducible apply Bn.set)))
  have HB_W3 := Lib.hid (show Below w.heap.size w W3 by rw [← hW]; (repeat' (first | with_reducible exact Below.refl _ _ | with_reducible exact HB.out | (with_reducible refine Below.alloc ?_ ?_ _; rotate_left; (focus (first | omega | (simp; done) | (simp; omega)))) | with_reducible apply Below.drew | (with_reducible refine Below.setCell ?_ ?_ _; rotate_left; (focus (first | omega | (simp; done) | (simp; omega)))))))
  have HT_W3 := Lib.hid (HT.out.below HL_W3.out)
  have HA_W3 := Lib.hid (HA.out.below HL_W3.out)
  clear HL_W3
  clear hW
  clear hl_A f_A HX_A k_A_0 k_A_1 k_A_2 hl_B f_B HX_B k_B_0 k_B_1 k_B_2 HB hN hs0
  have hN := hN_W3
  have HB := HB_W3
  have hs0 := hs0_W3
  have hl_A := hl_A_W3
  have f_A := f_A_W3
  have HX_A := HX_A_W3
  have k_A_0 := k_A_0_W3
  have k_A_1 := k_A_1_W3
  have k_A_2 := k_A_2_W3
  have hl_B := hl_B_W3
  have f_B := f_B_W3
  have HX_B := HX_B_W3
  have k_B_0 := k_B_0_W3
  have k_B_1 := k_B_1_W3
  have k_B_2 := k_B_2_W3
  have hl_C := hl_C_W3
  have f_C := f_C_W3
  have HX_C := HX_C_W3
  have k_C_0 := k_C_0_W3
  have k_C_1 := k_C_1_W3
  have k_C_2 := k_C_2_W3
  clear hN_W3 HB_W3 hs0_W3 hl_A_W3 f_A_W3 HX_A_W3 k_A_0_W3 k_A_1_W3 k_A_2_W3 hl_B_W3 f_B_W3 HX_B_W3 k_B_0_W3 k_B_1_W3 k_B_2_W3 hl_C_W3 f_C_W3 HX_C_W3 k_C_0_W3 k_C_1_W3 k_C_2_W3
  clear HT HA
  have HT := HT_W3
  have HA := HA_W3
  clear HT_W3 HA_W3
  refine (Valid_any (N := N) _ _ _ q L _ hN HA.out hL false HV.out).mono ?_
  rintro e wd ⟨rfl, hb⟩
  have HT_wd := Lib.hid (HT.out.below hb)
  have HA_wd := Lib.hid (HA.out.below hb)
  have hN_wd : N ≤ wd.heap.size := Nat.le_trans hN hb.size
  have hs_wd : W3.heap.size ≤ wd.heap.size := hb.size
  have hs0_wd : w.heap.size ≤ wd.heap.size := Nat.le_trans hs0 hb.size
  have hl_A_wd : wa.heap.size < wd.heap.size := Nat.lt_of_lt_of_le hl_A hb.size
  have k_A_0_wd : wd.cell? ⟨wa.heap.size, 0, none⟩ = some (.bool false) := (hb.cell (p := ⟨wa.heap.size, 0, none⟩) hl_A).trans k_A_0
  have k_A_1_wd : wd.cell? ⟨wa.heap.size, 1, none⟩ = some (.slice none 0 0) := (hb.cell (p := ⟨wa.heap.size, 1, none⟩) hl_A).trans k_A_1
  have k_A_2_wd : wd.cell? ⟨wa.heap.size, 2, none⟩ = some (.slice none 0 0) := (hb.cell (p := ⟨wa.heap.size, 2, none⟩) hl_A).trans k_A_2
  have f_A_wd : ∀ o, wd.frozen? ⟨wa.heap.size, o, none⟩ = false := fun o => (hb.frozen (p := ⟨wa.heap.size, o, none⟩) hl_A).trans (f_A o)
  have HX_A_wd := Lib.hid (HX_A.out.below hb)
  have hl_B_wd : wb.heap.size < wd.heap.size := Nat.lt_of_lt_of_le hl_B hb.size
  have k_B_0_wd : wd.cell? ⟨wb.heap.size, 0, none⟩ = some (.bool false) := (hb.cell (p := ⟨wb.heap.size, 0, none⟩) hl_B).trans k_B_0
  have k_B_1_wd : wd.cell? ⟨wb.heap.size, 1, none⟩ = some (.slice none 0 0) := (hb.cell (p := ⟨wb.heap.size, 1, none⟩) hl_B).trans k_B_1
  have k_B_2_wd : wd.cell? ⟨wb.heap.size, 2, none⟩ = some (.slice none 0 0) := (hb.cell (p := ⟨wb.heap.size, 2, none⟩) hl_B).trans k_B_2
  have f_B_wd : ∀ o, wd.frozen? ⟨wb.heap.size, o, none⟩ = false := fun o => (hb.frozen (p := ⟨wb.heap.size, o, none⟩) hl_B).trans (f_B o)
  have HX_B_wd := Lib.hid (HX_B.out.below hb)
  have hl_C_wd : wc.heap.size < wd.heap.size := Nat.lt_of_lt_of_le hl_C hb.size
  have k_C_0_wd : wd.cell? ⟨wc.heap.size, 0, none⟩ = some (.bool false) := (hb.cell (p := ⟨wc.heap.size, 0, none⟩) hl_C).trans k_C_0
  have k_C_1_wd : wd.cell? ⟨wc.heap.size, 1, none⟩ = some (.slice none 0 0) := (hb.cell (p := ⟨wc.heap.size, 1, none⟩) hl_C).trans k_C_1
  have k_C_2_wd : wd.cell? ⟨wc.heap.size, 2, none⟩ = some (.slice none 0 0) := (hb.cell (p := ⟨wc.heap.size, 2, none⟩) hl_C).trans k_C_2
  have f_C_wd : ∀ o, wd.frozen? ⟨wc.heap.size, o, none⟩ = false := fun o => (hb.frozen (p := ⟨wc.heap.size, o, none⟩) hl_C).trans (f_C o)
  have HX_C_wd := Lib.hid (HX_C.out.below hb)
  have HB_wd := Lib.hid (HB.out.trans (hb.mono hs0))
  clear hb
  clear hl_A f_A HX_A k_A_0 k_A_1 k_A_2 hl_B f_B HX_B k_B_0 k_B_1 k_B_2 hl_C f_C HX_C k_C_0 k_C_1 k_C_2 HB hN hs0
  have hN := hN_wd
  have HB := HB_wd
  have hs0 := hs0_wd
  have hl_A := hl_A_wd
  have f_A := f_A_wd
  have HX_A := HX_A_wd
  have k_A_0 := k_A_0_wd
  have k_A_1 := k_A_1_wd
  have k_A_2 := k_A_2_wd
  have hl_B := hl_B_wd
  have f_B := f_B_wd
  have HX_B := HX_B_wd
  have k_B_0 := k_B_0_wd
  have k_B_1 := k_B_1_wd
  have k_B_2 := k_B_2_wd
  have hl_C := hl_C_wd
  have f_C := f_C_wd
  have HX_C := HX_C_wd
  have k_C_0 := k_C_0_wd
  have k_C_1 := k_C_1_wd
  have k_C_2 := k_C_2_wd
  clear hN_wd HB_wd hs0_wd hl_A_wd f_A_wd HX_A_wd k_A_0_wd k_A_1_wd k_A_2_wd hl_B_wd f_B_wd HX_B_wd k_B_0_wd k_B_1_wd k_B_2_wd hl_C_wd f_C_wd HX_C_wd k_C_0_wd k_C_1_wd k_C_2_wd
  clear HT HA
  have HT := HT_wd
  have HA := HA_wd
  clear HT_wd HA_wd
  go_wp2_with fail
  refine (awake_any (N := N) _ hN HT.out).mono ?_
  rintro e we ⟨rfl, hb⟩
  have HT_we := Lib.hid (HT.out.below hb)
  have HA_we := Lib.hid (HA.out.below hb)
  have hN_we : N ≤ we.heap.size := Nat.le_trans hN hb.size
  have hs_we : wd.heap.size ≤ we.heap.size := hb.size
  have hs0_we : w.heap.size ≤ we.heap.size := Nat.le_trans hs0 hb.size
  have hl_A_we : wa.heap.size < we.heap.size := Nat.lt_of_lt_of_le hl_A hb.size
  have k_A_0_we : we.cell? ⟨wa.heap.size, 0, none⟩ = some (.bool false) := (hb.cell (p := ⟨wa.heap.size, 0, none⟩) hl_A).trans k_A_0
  have k_A_1_we : we.cell? ⟨wa.heap.size, 1, none⟩ = some (.slice none 0 0) := (hb.cell (p := ⟨wa.heap.size, 1, none⟩) hl_A).trans k_A_1
  have k_A_2_we : we.cell? ⟨wa.heap.size, 2, none⟩ = some (.slice none 0 0) := (hb.cell (p := ⟨wa.heap.size, 2, none⟩) hl_A).trans k_A_2
  have f_A_we : ∀ o, we.frozen? ⟨wa.heap.size, o, none⟩ = false := fun o => (hb.frozen (p := ⟨wa.heap.size, o, none⟩) hl_A).trans (f_A o)
  have HX_A_we := Lib.hid (HX_A.out.below hb)
  have hl_B_we : wb.heap.size < we.heap.size := Nat.lt_of_lt_of_le hl_B hb.size
  have k_B_0_we : we.cell? ⟨wb.heap.size, 0, none⟩ = some (.bool false) := (hb.cell (p := ⟨wb.heap.size, 0, none⟩) hl_B).trans k_B_0
  have k_B_1_we : we.cell? ⟨wb.heap.size, 1, none⟩ = some (.slice none 0 0) := (hb.cell (p := ⟨wb.heap.size, 1, none⟩) hl_B).trans k_B_1
  have k_B_2_we : we.cell? ⟨wb.heap.size, 2, none⟩ = some (.slice none 0 0) := (hb.cell (p := ⟨wb.heap.size, 2, none⟩) hl_B).trans k_B_2
  have f_B_we : ∀ o, we.frozen? ⟨wb.heap.size, o, none⟩ = false := fun o => (hb.frozen (p := ⟨wb.heap.size, o, none⟩) hl_B).trans (f_B o)
  have HX_B_we := Lib.hid (HX_B.out.below hb)
  have hl_C_we : wc.heap.size < we.heap.size := Nat.lt_of_lt_of_le hl_C hb.size
  have k_C_0_we : we.cell? ⟨wc.heap.size, 0, none⟩ = some (.bool false) := (hb.cell (p := ⟨wc.heap.size, 0, none⟩) hl_C).trans k_C_0
  have k_C_1_we : we.cell? ⟨wc.heap.size, 1, none⟩ = some (.slice none 0 0) := (hb.cell (p := ⟨wc.heap.size, 1, none⟩) hl_C).trans k_C_1
  have k_C_2_we : we.cell? ⟨wc.heap.size, 2, none⟩ = some (.slice none 0 0) := (hb.cell (p := ⟨wc.heap.size, 2, none⟩) hl_C).trans k_C_2
  have f_C_we : ∀ o, we.frozen? ⟨wc.heap.size, o, none⟩ = false := fun o => (hb.frozen (p := ⟨wc.heap.size, o, none⟩) hl_C).trans (f_C o)
  have HX_C_we := Lib.hid (HX_C.out.below hb)
  have HB_we := Lib.hid (HB.out.trans (hb.mono hs0))
  clear hb
  clear hl_A f_A HX_A k_A_0 k_A_1 k_A_2 hl_B f_B HX_B k_B_0 k_B_1 k_B_2 hl_C f_C HX_C k_C_0 k_C_1 k_C_2 HB hN hs0
  have hN := hN_we
  have HB := HB_we
  have hs0 := hs0_we
  have hl_A := hl_A_we
  have f_A := f_A_we
  have HX_A := HX_A_we
  have k_A_0 := k_A_0_we
  have k_A_1 := k_A_1_we
  have k_A_2 := k_A_2_we
  have hl_B := hl_B_we
  have f_B := f_B_we
  have HX_B := HX_B_we
  have k_B_0 := k_B_0_we
  have k_B_1 := k_B_1_we
  have k_B_2 := k_B_2_we
  have hl_C := hl_C_we
  have f_C := f_C_we
  have HX_C := HX_C_we
  have k_C_0 := k_C_0_we
  have k_C_1 := k_C_1_we
  have k_C_2 := k_C_2_we
  clear hN_we HB_we hs0_we hl_A_we f_A_we HX_A_we k_A_0_we k_A_1_we k_A_2_we hl_B_we f_B_we HX_B_we k_B_0_we k_B_1_we k_B_2_we hl_C_we f_C_we HX_C_we k_C_0_we k_C_1_we k_C_2_we
  clear HT HA
  have HT := HT_we
  have HA := HA_we
  clear HT_we HA_we
  go_wp2_with fail
  go_ret
  exact ⟨rfl, HB.out⟩

set_option maxHeartbeats 8000000 in
theorem two_out {N : Nat} (a : Option Addr) (n cap : Nat) (q : Nat → Rat) (L k : Nat) (w : World) (hN : N ≤ w.heap.size) (h : Rs N w a n cap q L) (hL : L ≤ 2097152) (htab : TabW w) (hk : k ≤ 255) (hv : valid q n = true) (hkn : n ≤ k) :
    Calls Tryd.prog 7 #[.slice a n cap, .int .u8 k] w fun e w' => e = .returned (.bool true) ∧ Below w.heap.size w w' := by
  obtain ⟨n0, n121, hge, hsum⟩ := valid_iff.1 hv
  have HV := Lib.hid hv
  obtain ⟨K, hK⟩ : ∃ K, min (k + 1) n = K := ⟨_, rfl⟩
  have hKn : K ≤ n := by omega
  have HK1 := Lib.hid (show min ((k : Int) + 1).toNat n = K by omega)
  obtain ⟨pl, hpl⟩ : ∃ p, sQ q K = p := ⟨_, rfl⟩
  obtain ⟨pu, hpu⟩ : ∃ p, upQ q n K = p := ⟨_, rfl⟩
  obtain ⟨po, hpo⟩ : ∃ p : Rat, p = 1 := ⟨_, rfl⟩
  have HPl := Lib.hid hpl
  have HPu := Lib.hid hpu
  have HSum := Lib.hid (show pl + pu = po by rw [← hpl, ← hpu, hpo]; exact low_up q n K hKn hsum)
  have HOne := Lib.hid (show frq 1 1 = po by rw [hpo]; exact rat_one7)
  have hld : nlen (lcN (deQ q) n) ≤ L * n + 1 := lcN_len (fun i hi => by have := h.lim i hi; unfold rsz at this; unfold deQ; omega)
  have hm4 : L * n ≤ L * 121 := Nat.mul_le_mul_left _ n121
  have HZl := Lib.hid (show rsz pl ≤ L * 125 + 9 by rw [← hpl, ← low_frq hge K hKn]; exact frq_len _ _ _ (by omega) (by have := nlen_sN (nmN q n) K (L * 122 + 1) (fun i hi => nm_len h hm4 hld i (by omega)) (by omega); omega) (by omega))
  have HZu := Lib.hid (show rsz pu ≤ L * 125 + 9 by rw [← hpu, ← up_frq hge K]; exact frq_len _ _ _ (by omega) (by have := nlen_sN (fun i => nmN q n (K + i)) (n - K) (L * 122 + 1) (fun i hi => nm_len h hm4 hld (K + i) (by omega)) (by omega); omega) (by omega))
  have HZo := Lib.hid (show rsz po ≤ 1 by rw [hpo]; exact rsz_one)
  obtain ⟨pb, hpb⟩ : ∃ p : Rat, 0 = p := ⟨_, rfl⟩
  have HPb := Lib.hid hpb
  have HZb := Lib.hid (show rsz pb ≤ 1 by rw [← hpb]; exact rsz_small _ (by decide) (by decide))
  have HSb := Lib.hid (show pb.num.sign = 0 by rw [← hpb]; rfl)
  have HSu := Lib.hid (show pu.num.sign = 0 by rw [← hpu, show K = n by omega, up_end]; rfl)
  have d1 : decide ((n : Int) ≤ (k : Int)) = true := by simp; omega
  have d2 : decide (n ≤ k) = true := by simp; omega
  clear hv hpl hpu hsum hld hm4 hge hpb hpo hK
  have hN0 := hN
  have HT := Lib.hid htab
  have HA := Lib.hid h
  have bc1 := h.1
  have bc2 := h.2.1
  unfold maxLen at bc2
  clear htab h
  have HB := Lib.hid (Below.refl w.heap.size w)
  go_enter Tryd.func7, Tryd.ntmps7
  go_wp2_with fail
  refine calls_name fun W0 hW => ?_
  have hN_W0 : N ≤ W0.heap.size := by rw [← hW]; (first | omega | (simp; done) | (simp; omega))
  have hs_W0 : w.heap.size ≤ W0.heap.size := by rw [← hW]; (first | omega | (simp; done) | (simp; omega))
  have hs0_W0 : w.heap.size ≤ W0.heap.size := by rw [← hW]; (first | omega | (simp; done) | (simp; omega))
  have HB_W0 := Lib.hid (show Below w.heap.size w W0 by rw [← hW]; (repeat' (first | with_reducible exact Below.refl _ _ | with_reducible exact HB.out | (with_reducible refine Below.alloc ?_ ?_ _; rotate_left; (focus (first | omega | (simp; done) | (simp; omega)))) | with_reducible apply Below.drew | (with_reducible refine Below.setCell ?_ ?_ _; rotate_left; (focus (first | omega | (simp; done) | (simp; omega)))))))
  have HL_W0 := Lib.hid (show Below w.heap.size w W0 by rw [← hW]; (repeat' (first | with_reducible exact Below.refl _ _ | (with_reducible refine Below.alloc ?_ ?_ _; rotate_left; (focus (first | omega | (simp; done) | (simp; omega)))) | with_reducible apply Below.drew | (with_reducible refine Below.setCell ?_ ?_ _; rotate_left; (focus (first | omega | (simp; done) | (simp; omega)))))))
  have HT_W0 := Lib.hid (HT.out.below HL_W0.out)
  have HA_W0 := Lib.hid (HA.out.below HL_W0.out)
  clear HL_W0
  clear hW
  clear HB hN
  have hN := hN_W0
  have HB := HB_W0
  have hs0 := hs0_W0
  clear hN_W0 HB_W0 hs0_W0
  clear HT HA
  have HT := HT_W0
  have HA := HA_W0
  clear HT_W0 HA_W0
  refine (Lower_ok (N := N) _ _ _ q L _ hN HA.out hL HV.out (k : Int) (by omega) (by omega) K HK1.out pl HPl.out).mono ?_
  rintro e wa ⟨rl, cl, rl2, cl2, rfl, hn, hn', hb⟩
  have HT_wa := Lib.hid (HT.out.below hb)
  have HA_wa := Lib.hid (HA.out.below hb)
  have hN_wa : N ≤ wa.heap.size := Nat.le_trans hN hb.size
  have hs_wa : W0.heap.size ≤ wa.heap.size := hb.size
  have hs0_wa : w.heap.size ≤ wa.heap.size := Nat.le_trans hs0 hb.size
  have HB_wa := Lib.hid (HB.out.trans (hb.mono hs0))
  clear hb
  clear HB hN hs0
  have hN := hN_wa
  have HB := HB_wa
  have hs0 := hs0_wa
  clear hN_wa HB_wa hs0_wa
  clear HT HA
  have HT := HT_wa
  have HA := HA_wa
  clear HT_wa HA_wa
  have HL1 := Lib.hid hn
  clear hn
  have HL2 := Lib.hid hn'
  clear hn'
  go_wp2_with fail
  refine calls_name fun W1 hW => ?_
  have hN_W1 : N ≤ W1.heap.size := by rw [← hW]; (first | omega | (simp; done) | (simp; omega))
  have hs_W1 : wa.heap.size ≤ W1.heap.size := by rw [← hW]; (first | omega | (simp; done) | (simp; omega))
  have hs0_W1 : w.heap.size ≤ W1.heap.size := by rw [← hW]; (first | omega | (simp; done) | (simp; omega))
  have hl_A_W1 : wa.heap.size < W1.heap.size := by rw [← hW]; (first | omega | (simp; done) | (simp; omega))
  have k_A_0_W1 : W1.cell? ⟨wa.heap.size, 0, none⟩ = some (.bool (decide ((pl).num < 0))) := by rw [← hW]; (first | (go_simp; done) | (simp; done) | (simp [go_sem]; done) | (simp [go_sem]; done))
  have k_A_1_W1 : W1.cell? ⟨wa.heap.size, 1, none⟩ = some (.slice rl (nlen (pl).num.natAbs) cl) := by rw [← hW]; (first | (go_simp; done) | (simp; done) | (simp [go_sem]; done) | (simp [go_sem]; done))
  have k_A_2_W1 : W1.cell? ⟨wa.heap.size, 2, none⟩ = some (.slice rl2 (nlen (pl).den) cl2) := by rw [← hW]; (first | (go_simp; done) | (simp; done) | (simp [go_sem]; done) | (simp [go_sem]; done))
  have f_A_W1 : ∀ o, W1.frozen? ⟨wa.heap.size, o, none⟩ = false := by intro o; rw [← hW]; (first | (go_simp; done) | (simp; done) | (simp [go_sem]; done) | (simp [go_sem]; done))
  have HX_A_W1 := Lib.hid (show Bn W1 (wa.heap.size) by rw [← hW]; (repeat' (first | with_reducible exact Kp.refl _ _ | with_reducible apply Kp.alloc | with_reducible apply Kp.drew | (with_reducible refine Kp.put ?_ ?_ ?_ _; rotate_left; (focus (first | omega | (simp; done) | (simp; omega))); rotate_left) | (with_reducible refine Bn.new _ _ _ _ ?_ ?_; (focus (first | omega | (simp; done) | (simp; omega))); decide) | with_reducible apply Bn.alloc | with_reducible apply Bn.drew | with_reducible apply Bn.set)))
  have HK_W1 := Lib.hid (show Kp N wa W1 by rw [← hW]; (repeat' (first | with_reducible exact Kp.refl _ _ | with_reducible apply Kp.alloc | with_reducible apply Kp.drew | (with_reducible refine Kp.put ?_ ?_ ?_ _; rotate_left; (focus (first | omega | (simp; done) | (simp; omega))); rotate_left) | (with_reducible refine Bn.new _ _ _ _ ?_ ?_; (focus (first | omega | (simp; done) | (simp; omega))); decide) | with_reducible apply Bn.alloc | with_reducible apply Bn.drew | with_reducible apply Bn.set)))
  have HL1_W1 := Lib.hid (HL1.out.keep HK_W1.out)
  have HL2_W1 := Lib.hid (HL2.out.keep HK_W1.out)
  have HB_W1 := Lib.hid (show Below w.heap.size w W1 by rw [← hW]; (repeat' (first | with_reducible exact Below.refl _ _ | with_reducible exact HB.out | (with_reducible refine Below.alloc ?_ ?_ _; rotate_left; (focus (first | omega | (simp; done) | (simp; omega)))) | with_reducible apply Below.drew | (with_reducible refine Below.setCell ?_ ?_ _; rotate_left; (focus (first | omega | (simp; done) | (simp; omega)))))))
  have HL_W1 := Lib.hid (show Below wa.heap.size wa W1 by rw [← hW]; (repeat' (first | with_reducible exact Below.refl _ _ | (with_reducible refine Below.alloc ?_ ?_ _; rotate_left; (focus (first | omega | (simp; done) | (simp; omega)))) | with_reducible apply Below.drew | (with_reducible refine Below.setCell ?_ ?_ _; rotate_left; (focus (first | omega | (simp; done) | (simp; omega)))))))
  have HT_W1 := Lib.hid (HT.out.below HL_W1.out)
  have HA_W1 := Lib.hid (HA.out.below HL_W1.out)
  clear HL_W1
  clear hW HK_W1
  clear HL1 HL2 HB hN hs0
  have hN := hN_W1
  have HB := HB_W1
  have hs0 := hs0_W1
  have hl_A := hl_A_W1
  have f_A := f_A_W1
  have HX_A := HX_A_W1
  have k_A_0 := k_A_0_W1
  have k_A_1 := k_A_1_W1
  have k_A_2 := k_A_2_W1
  have HL1 := HL1_W1
  have HL2 := HL2_W1
  clear hN_W1 HB_W1 hs0_W1 hl_A_W1 f_A_W1 HX_A_W1 k_A_0_W1 k_A_1_W1 k_A_2_W1 HL1_W1 HL2_W1
  clear HT HA
  have HT := HT_W1
  have HA := HA_W1
  clear HT_W1 HA_W1
  refine (Upper_ok (N := N) _ _ _ q L _ hN HA.out hL HV.out ((k : Int) + 1) (by omega) (by omega) K HK1.out pu HPu.out).mono ?_
  rintro e wb ⟨ru, cu, ru2, cu2, rfl, hn, hn', hb⟩
  have HT_wb := Lib.hid (HT.out.below hb)
  have HA_wb := Lib.hid (HA.out.below hb)
  have hN_wb : N ≤ wb.heap.size := Nat.le_trans hN hb.size
  have hs_wb : W1.heap.size ≤ wb.heap.size := hb.size
  have hs0_wb : w.heap.size ≤ wb.heap.size := Nat.le_trans hs0 hb.size
  have hl_A_wb : wa.heap.size < wb.heap.size := Nat.lt_of_lt_of_le hl_A hb.size
  have k_A_0_wb : wb.cell? ⟨wa.heap.size, 0, none⟩ = some (.bool (decide ((pl).num < 0))) := (hb.cell (p := ⟨wa.heap.size, 0, none⟩) hl_A).trans k_A_0
  have k_A_1_wb : wb.cell? ⟨wa.heap.size, 1, none⟩ = some (.slice rl (nlen (pl).num.natAbs) cl) := (hb.cell (p := ⟨wa.heap.size, 1, none⟩) hl_A).trans k_A_1
  have k_A_2_wb : wb.cell? ⟨wa.heap.size, 2, none⟩ = some (.slice rl2 (nlen (pl).den) cl2) := (hb.cell (p := ⟨wa.heap.size, 2, none⟩) hl_A).trans k_A_2
  have f_A_wb : ∀ o, wb.frozen? ⟨wa.heap.size, o, none⟩ = false := fun o => (hb.frozen (p := ⟨wa.heap.size, o, none⟩) hl_A).trans (f_A o)
  have HX_A_wb := Lib.hid (HX_A.out.below hb)
  have HL1_wb := Lib.hid (HL1.out.below hb)
  have HL2_wb := Lib.hid (HL2.out.below hb)
  have HB_wb := Lib.hid (HB.out.trans (hb.mono hs0))
  clear hb
  clear hl_A f_A HX_A k_A_0 k_A_1 k_A_2 HL1 HL2 HB hN hs0
  have hN := hN_wb
  have HB := HB_wb
  have hs0 := hs0_wb
  have hl_A := hl_A_wb
  have f_A := f_A_wb
  have HX_A := HX_A_wb
  have k_A_0 := k_A_0_wb
  have k_A_1 := k_A_1_wb
  have k_A_2 := k_A_2_wb
  have HL1 := HL1_wb
  have HL2 := HL2_wb
  clear hN_wb HB_wb hs0_wb hl_A_wb f_A_wb HX_A_wb k_A_0_wb k_A_1_wb k_A_2_wb HL1_wb HL2_wb
  clear HT HA
  have HT := HT_wb
  have HA := HA_wb
  clear HT_wb HA_wb
  have HU1 := Lib.hid hn
  clear hn
  have HU2 := Lib.hid hn'
  clear hn'
  go_wp2_with fail
  refine calls_name fun W2 hW => ?_
  have HL_W2 := Lib.hid (show Below wb.heap.size wb W2 by rw [← hW]; (repeat' (first | with_reducible exact Below.refl _ _ | (with_reducible refine Below.alloc ?_ ?_ _; rotate_left; (focus (first | omega | (simp; done) | (simp; omega)))) | with_reducible apply Below.drew | (with_reducible refine Below.setCell ?_ ?_ _; rotate_left; (focus (first | omega | (simp; done) | (simp; omega)))))))
  have hN_W2 : N ≤ W2.heap.size := by rw [← hW]; (first | omega | (simp; done) | (simp; omega))
  have hs_W2 : wb.heap.size ≤ W2.heap.size := by rw [← hW]; (first | omega | (simp; done) | (simp; omega))
  have hs0_W2 : w.heap.size ≤ W2.heap.size := by rw [← hW]; (first | omega | (simp; done) | (simp; omega))
  have hd_A_B : wa.heap.size < wb.heap.size := by omega
  have hl_A_W2 : wa.heap.size < W2.heap.size := by rw [← hW]; (first | omega | (simp; done) | (simp; omega))
  have k_A_0_W2 : W2.cell? ⟨wa.heap.size, 0, none⟩ = some (.bool (decide ((pl).num < 0))) := (HL_W2.out.cell (p := ⟨wa.heap.size, 0, none⟩) hl_A).trans k_A_0
  have k_A_1_W2 : W2.cell? ⟨wa.heap.size, 1, none⟩ = some (.slice rl (nlen (pl).num.natAbs) cl) := (HL_W2.out.cell (p := ⟨wa.heap.size, 1, none⟩) hl_A).trans k_A_1
  have k_A_2_W2 : W2.cell? ⟨wa.heap.size, 2, none⟩ = some (.slice rl2 (nlen (pl).den) cl2) := (HL_W2.out.cell (p := ⟨wa.heap.size, 2, none⟩) hl_A).trans k_A_2
  have f_A_W2 : ∀ o, W2.frozen? ⟨wa.heap.size, o, none⟩ = false := fun o => (HL_W2.out.frozen (p := ⟨wa.heap.size, o, none⟩) hl_A).trans (f_A o)
  have HX_A_W2 := Lib.hid (show Bn W2 (wa.heap.size) by rw [← hW]; (repeat' (first | with_reducible exact Kp.refl _ _ | with_reducible exact HX_A.out | with_reducible apply Kp.alloc | with_reducible apply Kp.drew | (with_reducible refine Kp.put ?_ ?_ ?_ _; rotate_left; (focus (first | omega | (simp; done) | (simp; omega))); rotate_left) | (with_reducible refine Bn.new _ _ _ _ ?_ ?_; (focus (first | omega | (simp; done) | (simp; omega))); decide) | with_reducible apply Bn.alloc | with_reducible apply Bn.drew | with_reducible apply Bn.set)))
  have hl_B_W2 : wb.heap.size < W2.heap.size := by rw [← hW]; (first | omega | (simp; done) | (simp; omega))
  have k_B_0_W2 : W2.cell? ⟨wb.heap.size, 0, none⟩ = some (.bool (decide ((pu).num < 0))) := by rw [← hW]; (first | (go_simp; done) | (simp; done) | (simp [go_sem]; done) | (simp [go_sem, k_A_0, k_A_1, k_A_2, f_A, hl_A]; done))
  have k_B_1_W2 : W2.cell? ⟨wb.heap.size, 1, none⟩ = some (.slice ru (nlen (pu).num.natAbs) cu) := by rw [← hW]; (first | (go_simp; done) | (simp; done) | (simp [go_sem]; done) | (simp [go_sem, k_A_0, k_A_1, k_A_2, f_A, hl_A]; done))
  have k_B_2_W2 : W2.cell? ⟨wb.heap.size, 2, none⟩ = some (.slice ru2 (nlen (pu).den) cu2) := by rw [← hW]; (first | (go_simp; done) | (simp; done) | (simp [go_sem]; done) | (simp [go_sem, k_A_0, k_A_1, k_A_2, f_A, hl_A]; done))
  have f_B_W2 : ∀ o, W2.frozen? ⟨wb.heap.size, o, none⟩ = false := by intro o; rw [← hW]; (first | (go_simp; done) | (simp; done) | (simp [go_sem]; done) | (simp [go_sem, k_A_0, k_A_1, k_A_2, f_A, hl_A]; done))
  have HX_B_W2 := Lib.hid (show Bn W2 (wb.heap.size) by rw [← hW]; (repeat' (first | with_reducible exact Kp.refl _ _ | with_reducible exact HX_A.out | with_reducible apply Kp.alloc | with_reducible apply Kp.drew | (with_reducible refine Kp.put ?_ ?_ ?_ _; rotate_left; (focus (first | omega | (simp; done) | (simp; omega))); rotate_left) | (with_reducible refine Bn.new _ _ _ _ ?_ ?_; (focus (first | omega | (simp; done) | (simp; omega))); decide) | with_reducible apply Bn.alloc | with_reducible apply Bn.drew | with_reducible apply Bn.set)))
  have HK_W2 := Lib.hid (show Kp N wb W2 by rw [← hW]; (repeat' (first | with_reducible exact Kp.refl _ _ | with_reducible exact HX_A.out | with_reducible apply Kp.alloc | with_reducible apply Kp.drew | (with_reducible refine Kp.put ?_ ?_ ?_ _; rotate_left; (focus (first | omega | (simp; done) | (simp; omega))); rotate_left) | (with_reducible refine Bn.new _ _ _ _ ?_ ?_; (focus (first | omega | (simp; done) | (simp; omega))); decide) | with_reducible apply Bn.alloc | with_reducible apply Bn.drew | with_reducible apply Bn.set)))
  have HL1_W2 := Lib.hid (HL1.out.keep HK_W2.out)
  have HL2_W2 := Lib.hid (HL2.out.keep HK_W2.out)
  have HU1_W2 := Lib.hid (HU1.out.keep HK_W2.out)
  have HU2_W2 := Lib.hid (HU2.out.keep HK_W2.out)
  have HB_W2 := Lib.hid (show Below w.heap.size w W2 by rw [← hW]; (repeat' (first | with_reducible exact Below.refl _ _ | with_reducible exact HB.out | (with_reducible refine Below.alloc ?_ ?_ _; rotate_left; (focus (first | omega | (simp; done) | (simp; omega)))) | with_reducible apply Below.drew | (with_reducible refine Below.setCell ?_ ?_ _; rotate_left; (focus (first | omega | (simp; done) | (simp; omega)))))))
  have HT_W2 := Lib.hid (HT.out.below HL_W2.out)
  have HA_W2 := Lib.hid (HA.out.below HL_W2.out)
  clear HL_W2
  clear hW HK_W2
  clear hl_A f_A HX_A k_A_0 k_A_1 k_A_2 HL1 HL2 HU1 HU2 HB hN hs0
  have hN := hN_W2
  have HB := HB_W2
  have hs0 := hs0_W2
  have hl_A := hl_A_W2
  have f_A := f_A_W2
  have HX_A := HX_A_W2
  have k_A_0 := k_A_0_W2
  have k_A_1 := k_A_1_W2
  have k_A_2 := k_A_2_W2
  have hl_B := hl_B_W2
  have f_B := f_B_W2
  have HX_B := HX_B_W2
  have k_B_0 := k_B_0_W2
  have k_B_1 := k_B_1_W2
  have k_B_2 := k_B_2_W2
  have HL1 := HL1_W2
  have HL2 := HL2_W2
  have HU1 := HU1_W2
  have HU2 := HU2_W2
  clear hN_W2 HB_W2 hs0_W2 hl_A_W2 f_A_W2 HX_A_W2 k_A_0_W2 k_A_1_W2 k_A_2_W2 hl_B_W2 f_B_W2 HX_B_W2 k_B_0_W2 k_B_1_W2 k_B_2_W2 HL1_W2 HL2_W2 HU1_W2 HU2_W2
  clear HT HA
  have HT := HT_W2
  have HA := HA_W2
  clear HT_W2 HA_W2
  refine (Both_out (N := N) _ _ _ q L _ hN HA.out hL HV.out (k : Int) (by omega) pb HPb.out).mono ?_
  rintro e wc ⟨rb, cb, rb2, cb2, rfl, hn, hn', hb⟩
  have HT_wc := Lib.hid (HT.out.below hb)
  have HA_wc := Lib.hid (HA.out.below hb)
  have hN_wc : N ≤ wc.heap.size := Nat.le_trans hN hb.size
  have hs_wc : W2.heap.size ≤ wc.heap.size := hb.size
  have hs0_wc : w.heap.size ≤ wc.heap.size := Nat.le_trans hs0 hb.size
  have hl_A_wc : wa.heap.size < wc.heap.size := Nat.lt_of_lt_of_le hl_A hb.size
  have k_A_0_wc : wc.cell? ⟨wa.heap.size, 0, none⟩ = some (.bool (decide ((pl).num < 0))) := (hb.cell (p := ⟨wa.heap.size, 0, none⟩) hl_A).trans k_A_0
  have k_A_1_wc : wc.cell? ⟨wa.heap.size, 1, none⟩ = some (.slice rl (nlen (pl).num.natAbs) cl) := (hb.cell (p := ⟨wa.heap.size, 1, none⟩) hl_A).trans k_A_1
  have k_A_2_wc : wc.cell? ⟨wa.heap.size, 2, none⟩ = some (.slice rl2 (nlen (pl).den) cl2) := (hb.cell (p := ⟨wa.heap.size, 2, none⟩) hl_A).trans k_A_2
  have f_A_wc : ∀ o, wc.frozen? ⟨wa.heap.size, o, none⟩ = false := fun o => (hb.frozen (p := ⟨wa.heap.size, o, none⟩) hl_A).trans (f_A o)
  have HX_A_wc := Lib.hid (HX_A.out.below hb)
  have hl_B_wc : wb.heap.size < wc.heap.size := Nat.lt_of_lt_of_le hl_B hb.size
  have k_B_0_wc : wc.cell? ⟨wb.heap.size, 0, none⟩ = some (.bool (decide ((pu).num < 0))) := (hb.cell (p := ⟨wb.heap.size, 0, none⟩) hl_B).trans k_B_0
  have k_B_1_wc : wc.cell? ⟨wb.heap.size, 1, none⟩ = some (.slice ru (nlen (pu).num.natAbs) cu) := (hb.cell (p := ⟨wb.heap.size, 1, none⟩) hl_B).trans k_B_1
  have k_B_2_wc : wc.cell? ⟨wb.heap.size, 2, none⟩ = some (.slice ru2 (nlen (pu).den) cu2) := (hb.cell (p := ⟨wb.heap.size, 2, none⟩) hl_B).trans k_B_2
  have f_B_wc : ∀ o, wc.frozen? ⟨wb.heap.size, o, none⟩ = false := fun o => (hb.frozen (p := ⟨wb.heap.size, o, none⟩) hl_B).trans (f_B o)
  have HX_B_wc := Lib.hid (HX_B.out.below hb)
  have HL1_wc := Lib.hid (HL1.out.below hb)
  have HL2_wc := Lib.hid (HL2.out.below hb)
  have HU1_wc := Lib.hid (HU1.out.below hb)
  have HU2_wc := Lib.hid (HU2.out.below hb)
  have HB_wc := Lib.hid (HB.out.trans (hb.mono hs0))
  clear hb
  clear hl_A f_A HX_A k_A_0 k_A_1 k_A_2 hl_B f_B HX_B k_B_0 k_B_1 k_B_2 HL1 HL2 HU1 HU2 HB hN hs0
  have hN := hN_wc
  have HB := HB_wc
  have hs0 := hs0_wc
  have hl_A := hl_A_wc
  have f_A := f_A_wc
  have HX_A := HX_A_wc
  have k_A_0 := k_A_0_wc
  have k_A_1 := k_A_1_wc
  have k_A_2 := k_A_2_wc
  have hl_B := hl_B_wc
  have f_B := f_B_wc
  have HX_B := HX_B_wc
  have k_B_0 := k_B_0_wc
  have k_B_1 := k_B_1_wc
  have k_B_2 := k_B_2_wc
  have HL1 := HL1_wc
  have HL2 := HL2_wc
  have HU1 := HU1_wc
  have HU2 := HU2_wc
  clear hN_wc HB_wc hs0_wc hl_A_wc f_A_wc HX_A_wc k_A_0_wc k_A_1_wc k_A_2_wc hl_B_wc f_B_wc HX_B_wc k_B_0_wc k_B_1_wc k_B_2_wc HL1_wc HL2_wc HU1_wc HU2_wc
  clear HT HA
  have HT := HT_wc
  have HA := HA_wc
  clear HT_wc HA_wc
  have HC1 := Lib.hid hn
  clear hn
  have HC2 := Lib.hid hn'
  clear hn'
  go_wp2_with fail
  refine calls_name fun W3 hW => ?_
  have HL_W3 := Lib.hid (show Below wc.heap.size wc W3 by rw [← hW]; (repeat' (first | with_reducible exact Below.refl _ _ | (with_reducible refine Below.alloc ?_ ?_ _; rotate_left; (focus (first | omega | (simp; done) | (simp; omega)))) | with_reducible apply Below.drew | (with_reducible refine Below.setCell ?_ ?_ _; rotate_left; (focus (first | omega | (simp; done) | (simp; omega)))))))
  have hN_W3 : N ≤ W3.heap.size := by rw [← hW]; (first | omega | (simp; done) | (simp; omega))
  have hs_W3 : wc.heap.size ≤ W3.heap.size := by rw [← hW]; (first | omega | (simp; done) | (simp; omega))
  have hs0_W3 : w.heap.size ≤ W3.heap.size := by rw [← hW]; (first | omega | (simp; done) | (simp; omega))
  have hd_A_C : wa.heap.size < wc.heap.size := by omega
  have hd_B_C : wb.heap.size < wc.heap.size := by omega
  have hl_A_W3 : wa.heap.size < W3.heap.size := by rw [← hW]; (first | omega | (simp; done) | (simp; omega))
  have k_A_0_W3 : W3.cell? ⟨wa.heap.size, 0, none⟩ = some (.bool (decide ((pl).num < 0))) := (HL_W3.out.cell (p := ⟨wa.heap.size, 0, none⟩) hl_A).trans k_A_0
  have k_A_1_W3 : W3.cell? ⟨wa.heap.size, 1, none⟩ = some (.slice rl (nlen (pl).num.natAbs) cl) := (HL_W3.out.cell (p := ⟨wa.heap.size, 1, none⟩) hl_A).trans k_A_1
  have k_A_2_W3 : W3.cell? ⟨wa.heap.size, 2, none⟩ = some (.slice rl2 (nlen (pl).den) cl2) := (HL_W3.out.cell (p := ⟨wa.heap.size, 2, none⟩) hl_A).trans k_A_2
  have f_A_W3 : ∀ o, W3.frozen? ⟨wa.heap.size, o, none⟩ = false := fun o => (HL_W3.out.frozen (p := ⟨wa.heap.size, o, none⟩) hl_A).trans (f_A o)
  have HX_A_W3 := Lib.hid (show Bn W3 (wa.heap.size) by rw [← hW]; (repeat' (first | with_reducible exact Kp.refl _ _ | with_reducible exact HX_A.out | with_reducible exact HX_B.out | with_reducible apply Kp.alloc | with_reducible apply Kp.drew | (with_reducible refine Kp.put ?_ ?_ ?_ _; rotate_left; (focus (first | omega | (simp; done) | (simp; omega))); rotate_left) | (with_reducible refine Bn.new _ _ _ _ ?_ ?_; (focus (first | omega | (simp; done) | (simp; omega))); decide) | with_reducible apply Bn.alloc | with_reducible apply Bn.drew | with_reducible apply Bn.set)))
  have hl_B_W3 : wb.heap.size < W3.heap.size := by rw [← hW]; (first | omega | (simp; done) | (simp; omega))
  have k_B_0_W3 : W3.cell? ⟨wb.heap.size, 0, none⟩ = some (.bool (decide ((pu).num < 0))) := (HL_W3.out.cell (p := ⟨wb.heap.size, 0, none⟩) hl_B).trans k_B_0
  have k_B_1_W3 : W3.cell? ⟨wb.heap.size, 1, none⟩ = some (.slice ru (nlen (pu).num.natAbs) cu) := (HL_W3.out.cell (p := ⟨wb.heap.size, 1, none⟩) hl_B).trans k_B_1
  have k_B_2_W3 : W3.cell? ⟨wb.heap.size, 2, none⟩ = some (.slice ru2 (nlen (pu).den) cu2) := (HL_W3.out.cell (p := ⟨wb.heap.size, 2, none⟩) hl_B).trans k_B_2
  have f_B_W3 : ∀ o, W3.frozen? ⟨wb.heap.size, o, none⟩ = false := fun o => (HL_W3.out.frozen (p := ⟨wb.heap.size, o, none⟩) hl_B).trans (f_B o)
  have HX_B_W3 := Lib.hid (show Bn W3 (wb.heap.size) by rw [← hW]; (repeat' (first | with_reducible exact Kp.refl _ _ | with_reducible exact HX_A.out | with_reducible exact HX_B.out | with_reducible apply Kp.alloc | with_reducible apply Kp.drew | (with_reducible refine Kp.put ?_ ?_ ?_ _; rotate_left; (focus (first | omega | (simp; done) | (simp; omega))); rotate_left) | (with_reducible refine Bn.new _ _ _ _ ?_ ?_; (focus (first | omega | (simp; done) | (simp; omega))); decide) | with_reducible apply Bn.alloc | with_reducible apply Bn.drew | with_reducible apply Bn.set)))
  have hl_C_W3 : wc.heap.size < W3.heap.size := by rw [← hW]; (first | omega | (simp; done) | (simp; omega))
  have k_C_0_W3 : W3.cell? ⟨wc.heap.size, 0, none⟩ = some (.bool (decide ((pb).num < 0))) := by rw [← hW]; (first | (go_simp; done) | (simp; done) | (simp [go_sem]; done) | (simp [go_sem, k_A_0, k_A_1, k_A_2, k_B_0, k_B_1, k_B_2, f_A, f_B, hl_A, hl_B]; done))
  have k_C_1_W3 : W3.cell? ⟨wc.heap.size, 1, none⟩ = some (.slice rb (nlen (pb).num.natAbs) cb) := by rw [← hW]; (first | (go_simp; done) | (simp; done) | (simp [go_sem]; done) | (simp [go_sem, k_A_0, k_A_1, k_A_2, k_B_0, k_B_1, k_B_2, f_A, f_B, hl_A, hl_B]; done))
  have k_C_2_W3 : W3.cell? ⟨wc.heap.size, 2, none⟩ = some (.slice rb2 (nlen (pb).den) cb2) := by rw [← hW]; (first | (go_simp; done) | (simp; done) | (simp [go_sem]; done) | (simp [go_sem, k_A_0, k_A_1, k_A_2, k_B_0, k_B_1, k_B_2, f_A, f_B, hl_A, hl_B]; done))
  have f_C_W3 : ∀ o, W3.frozen? ⟨wc.heap.size, o, none⟩ = false := by intro o; rw [← hW]; (first | (go_simp; done) | (simp; done) | (simp [go_sem]; done) | (simp [go_sem, k_A_0, k_A_1, k_A_2, k_B_0, k_B_1, k_B_2, f_A, f_B, hl_A, hl_B]; done))
  have HX_C_W3 := Lib.hid (show Bn W3 (wc.heap.size) by rw [← hW]; (repeat' (first | with_reducible exact Kp.refl _ _ | with_reducible exact HX_A.out | with_reducible exact HX_B.out | with_reducible apply Kp.alloc | with_reducible apply Kp.drew | (with_reducible refine Kp.put ?_ ?_ ?_ _; rotate_left; (focus (first | omega | (simp; done) | (simp; omega))); rotate_left) | (with_reducible refine Bn.new _ _ _ _ ?_ ?_; (focus (first | omega | (simp; done) | (simp; omega))); decide) | with_reducible apply Bn.alloc | with_reducible apply Bn.drew | with_reducible apply Bn.set)))
  have HK_W3 := Lib.hid (show Kp N wc W3 by rw [← hW]; (repeat' (first | with_reducible exact Kp.refl _ _ | with_reducible exact HX_A.out | with_reducible exact HX_B.out | with_reducible apply Kp.alloc | with_reducible apply Kp.drew | (with_reducible refine Kp.put ?_ ?_ ?_ _; rotate_left; (focus (first | omega | (simp; done) | (simp; omega))); rotate_left) | (with_reducible refine Bn.new _ _ _ _ ?_ ?_; (focus (first | omega | (simp; done) | (simp; omega))); decide) | with_reducible apply Bn.alloc | with_reducible apply Bn.drew | with_reducible apply Bn.set)))
  have HL1_W3 := Lib.hid (HL1.out.keep HK_W3.out)
  have HL2_W3 := Lib.hid (HL2.out.keep HK_W3.out)
  have HU1_W3 := Lib.hid (HU1.out.keep HK_W3.out)
  have HU2_W3 := Lib.hid (HU2.out.keep HK_W3.out)
  have HC1_W3 := Lib.hid (HC1.out.keep HK_W3.out)
  have HC2_W3 := Lib.hid (HC2.out.keep HK_W3.out)
  have HB_W3 := Lib.hid (show Below w.heap.size w W3 by rw [← hW]; (repeat' (first | with_reducible exact Below.refl _ _ | with_reducible exact HB.out | (with_reducible refine Below.alloc ?_ ?_ _; rotate_left; (focus (first | omega | (simp; done) | (simp; omega)))) | with_reducible apply Below.drew | (with_reducible refine Below.setCell ?_ ?_ _; rotate_left; (focus (first | omega | (simp; done) | (simp; omega)))))))
  have HT_W3 := Lib.hid (HT.out.below HL_W3.out)
  have HA_W3 := Lib.hid (HA.out.below HL_W3.out)
  clear HL_W3
  clear hW HK_W3
  clear hl_A f_A HX_A k_A_0 k_A_1 k_A_2 hl_B f_B HX_B k_B_0 k_B_1 k_B_2 HL1 HL2 HU1 HU2 HC1 HC2 HB hN hs0
  have hN := hN_W3
  have HB := HB_W3
  have hs0 := hs0_W3
  have hl_A := hl_A_W3
  have f_A := f_A_W3
  have HX_A := HX_A_W3
  have k_A_0 := k_A_0_W3
  have k_A_1 := k_A_1_W3
  have k_A_2 := k_A_2_W3
  have hl_B := hl_B_W3
  have f_B := f_B_W3
  have HX_B := HX_B_W3
  have k_B_0 := k_B_0_W3
  have k_B_1 := k_B_1_W3
  have k_B_2 := k_B_2_W3
  have hl_C := hl_C_W3
  have f_C := f_C_W3
  have HX_C := HX_C_W3
  have k_C_0 := k_C_0_W3
  have k_C_1 := k_C_1_W3
  have k_C_2 := k_C_2_W3
  have HL1 := HL1_W3
  have HL2 := HL2_W3
  have HU1 := HU1_W3
  have HU2 := HU2_W3
  have HC1 := HC1_W3
  have HC2 := HC2_W3
  clear hN_W3 HB_W3 hs0_W3 hl_A_W3 f_A_W3 HX_A_W3 k_A_0_W3 k_A_1_W3 k_A_2_W3 hl_B_W3 f_B_W3 HX_B_W3 k_B_0_W3 k_B_1_W3 k_B_2_W3 hl_C_W3 f_C_W3 HX_C_W3 k_C_0_W3 k_C_1_W3 k_C_2_W3 HL1_W3 HL2_W3 HU1_W3 HU2_W3 HC1_W3 HC2_W3
  clear HT HA
  have HT := HT_W3
  have HA := HA_W3
  clear HT_W3 HA_W3
  refine (radd_any (N := N) _ _ _ _ _ _ _ _ _ _ _ _ _ _ (L * 125 + 9) (L * 125 + 9) pl pu _ hN (Rt.of_norm HL1.out HL2.out _ HZl.out) (Rt.of_norm HU1.out HU2.out _ HZu.out) (by omega) (by omega) po HSum.out).mono ?_
  rintro e wd ⟨rs, cs, rs2, cs2, rfl, hn, hn', hb⟩
  have HT_wd := Lib.hid (HT.out.below hb)
  have HA_wd := Lib.hid (HA.out.below hb)
  have hN_wd : N ≤ wd.heap.size := Nat.le_trans hN hb.size
  have hs_wd : W3.heap.size ≤ wd.heap.size := hb.size
  have hs0_wd : w.heap.size ≤ wd.heap.size := Nat.le_trans hs0 hb.size
  have hl_A_wd : wa.heap.size < wd.heap.size := Nat.lt_of_lt_of_le hl_A hb.size
  have k_A_0_wd : wd.cell? ⟨wa.heap.size, 0, none⟩ = some (.bool (decide ((pl).num < 0))) := (hb.cell (p := ⟨wa.heap.size, 0, none⟩) hl_A).trans k_A_0
  have k_A_1_wd : wd.cell? ⟨wa.heap.size, 1, none⟩ = some (.slice rl (nlen (pl).num.natAbs) cl) := (hb.cell (p := ⟨wa.heap.size, 1, none⟩) hl_A).trans k_A_1
  have k_A_2_wd : wd.cell? ⟨wa.heap.size, 2, none⟩ = some (.slice rl2 (nlen (pl).den) cl2) := (hb.cell (p := ⟨wa.heap.size, 2, none⟩) hl_A).trans k_A_2
  have f_A_wd : ∀ o, wd.frozen? ⟨wa.heap.size, o, none⟩ = false := fun o => (hb.frozen (p := ⟨wa.heap.size, o, none⟩) hl_A).trans (f_A o)
  have HX_A_wd := Lib.hid (HX_A.out.below hb)
  have hl_B_wd : wb.heap.size < wd.heap.size := Nat.lt_of_lt_of_le hl_B hb.size
  have k_B_0_wd : wd.cell? ⟨wb.heap.size, 0, none⟩ = some (.bool (decide ((pu).num < 0))) := (hb.cell (p := ⟨wb.heap.size, 0, none⟩) hl_B).trans k_B_0
  have k_B_1_wd : wd.cell? ⟨wb.heap.size, 1, none⟩ = some (.slice ru (nlen (pu).num.natAbs) cu) := (hb.cell (p := ⟨wb.heap.size, 1, none⟩) hl_B).trans k_B_1
  have k_B_2_wd : wd.cell? ⟨wb.heap.size, 2, none⟩ = some (.slice ru2 (nlen (pu).den) cu2) := (hb.cell (p := ⟨wb.heap.size, 2, none⟩) hl_B).trans k_B_2
  have f_B_wd : ∀ o, wd.frozen? ⟨wb.heap.size, o, none⟩ = false := fun o => (hb.frozen (p := ⟨wb.heap.size, o, none⟩) hl_B).trans (f_B o)
  have HX_B_wd := Lib.hid (HX_B.out.below hb)
  have hl_C_wd : wc.heap.size < wd.heap.size := Nat.lt_of_lt_of_le hl_C hb.size
  have k_C_0_wd : wd.cell? ⟨wc.heap.size, 0, none⟩ = some (.bool (decide ((pb).num < 0))) := (hb.cell (p := ⟨wc.heap.size, 0, none⟩) hl_C).trans k_C_0
  have k_C_1_wd : wd.cell? ⟨wc.heap.size, 1, none⟩ = some (.slice rb (nlen (pb).num.natAbs) cb) := (hb.cell (p := ⟨wc.heap.size, 1, none⟩) hl_C).trans k_C_1
  have k_C_2_wd : wd.cell? ⟨wc.heap.size, 2, none⟩ = some (.slice rb2 (nlen (pb).den) cb2) := (hb.cell (p := ⟨wc.heap.size, 2, none⟩) hl_C).trans k_C_2
  have f_C_wd : ∀ o, wd.frozen? ⟨wc.heap.size, o, none⟩ = false := fun o => (hb.frozen (p := ⟨wc.heap.size, o, none⟩) hl_C).trans (f_C o)
  have HX_C_wd := Lib.hid (HX_C.out.below hb)
  have HL1_wd := Lib.hid (HL1.out.below hb)
  have HL2_wd := Lib.hid (HL2.out.below hb)
  have HU1_wd := Lib.hid (HU1.out.below hb)
  have HU2_wd := Lib.hid (HU2.out.below hb)
  have HC1_wd := Lib.hid (HC1.out.below hb)
  have HC2_wd := Lib.hid (HC2.out.below hb)
  have HB_wd := Lib.hid (HB.out.trans (hb.mono hs0))
  clear hb
  clear hl_A f_A HX_A k_A_0 k_A_1 k_A_2 hl_B f_B HX_B k_B_0 k_B_1 k_B_2 hl_C f_C HX_C k_C_0 k_C_1 k_C_2 HL1 HL2 HU1 HU2 HC1 HC2 HB hN hs0
  have hN := hN_wd
  have HB := HB_wd
  have hs0 := hs0_wd
  have hl_A := hl_A_wd
  have f_A := f_A_wd
  have HX_A := HX_A_wd
  have k_A_0 := k_A_0_wd
  have k_A_1 := k_A_1_wd
  have k_A_2 := k_A_2_wd
  have hl_B := hl_B_wd
  have f_B := f_B_wd
  have HX_B := HX_B_wd
  have k_B_0 := k_B_0_wd
  have k_B_1 := k_B_1_wd
  have k_B_2 := k_B_2_wd
  have hl_C := hl_C_wd
  have f_C := f_C_wd
  have HX_C := HX_C_wd
  have k_C_0 := k_C_0_wd
  have k_C_1 := k_C_1_wd
  have k_C_2 := k_C_2_wd
  have HL1 := HL1_wd
  have HL2 := HL2_wd
  have HU1 := HU1_wd
  have HU2 := HU2_wd
  have HC1 := HC1_wd
  have HC2 := HC2_wd
  clear hN_wd HB_wd hs0_wd hl_A_wd f_A_wd HX_A_wd k_A_0_wd k_A_1_wd k_A_2_wd hl_B_wd f_B_wd HX_B_wd k_B_0_wd k_B_1_wd k_B_2_wd hl_C_wd f_C_wd HX_C_wd k_C_0_wd k_C_1_wd k_C_2_wd HL1_wd HL2_wd HU1_wd HU2_wd HC1_wd HC2_wd
  clear HT HA
  have HT := HT_wd
  have HA := HA_wd
  clear HT_wd HA_wd
  have HS1 := Lib.hid hn
  clear hn
  have HS2 := Lib.hid hn'
  clear hn'
  go_wp2_with fail
  refine (part_any (N := N) 1 1 _ hN (by decide) (by decide) po HOne.out).mono ?_
  rintro e we ⟨ax, dx, rfl, hn, hb⟩
  have HT_we := Lib.hid (HT.out.below hb)
  have HA_we := Lib.hid (HA.out.below hb)
  have hN_we : N ≤ we.heap.size := Nat.le_trans hN hb.size
  have hs_we : wd.heap.size ≤ we.heap.size := hb.size
  have hs0_we : w.heap.size ≤ we.heap.size := Nat.le_trans hs0 hb.size
  have hl_A_we : wa.heap.size < we.heap.size := Nat.lt_of_lt_of_le hl_A hb.size
  have k_A_0_we : we.cell? ⟨wa.heap.size, 0, none⟩ = some (.bool (decide ((pl).num < 0))) := (hb.cell (p := ⟨wa.heap.size, 0, none⟩) hl_A).trans k_A_0
  have k_A_1_we : we.cell? ⟨wa.heap.size, 1, none⟩ = some (.slice rl (nlen (pl).num.natAbs) cl) := (hb.cell (p := ⟨wa.heap.size, 1, none⟩) hl_A).trans k_A_1
  have k_A_2_we : we.cell? ⟨wa.heap.size, 2, none⟩ = some (.slice rl2 (nlen (pl).den) cl2) := (hb.cell (p := ⟨wa.heap.size, 2, none⟩) hl_A).trans k_A_2
  have f_A_we : ∀ o, we.frozen? ⟨wa.heap.size, o, none⟩ = false := fun o => (hb.frozen (p := ⟨wa.heap.size, o, none⟩) hl_A).trans (f_A o)
  have HX_A_we := Lib.hid (HX_A.out.below hb)
  have hl_B_we : wb.heap.size < we.heap.size := Nat.lt_of_lt_of_le hl_B hb.size
  have k_B_0_we : we.cell? ⟨wb.heap.size, 0, none⟩ = some (.bool (decide ((pu).num < 0))) := (hb.cell (p := ⟨wb.heap.size, 0, none⟩) hl_B).trans k_B_0
  have k_B_1_we : we.cell? ⟨wb.heap.size, 1, none⟩ = some (.slice ru (nlen (pu).num.natAbs) cu) := (hb.cell (p := ⟨wb.heap.size, 1, none⟩) hl_B).trans k_B_1
  have k_B_2_we : we.cell? ⟨wb.heap.size, 2, none⟩ = some (.slice ru2 (nlen (pu).den) cu2) := (hb.cell (p := ⟨wb.heap.size, 2, none⟩) hl_B).trans k_B_2
  have f_B_we : ∀ o, we.frozen? ⟨wb.heap.size, o, none⟩ = false := fun o => (hb.frozen (p := ⟨wb.heap.size, o, none⟩) hl_B).trans (f_B o)
  have HX_B_we := Lib.hid (HX_B.out.below hb)
  have hl_C_we : wc.heap.size < we.heap.size := Nat.lt_of_lt_of_le hl_C hb.size
  have k_C_0_we : we.cell? ⟨wc.heap.size, 0, none⟩ = some (.bool (decide ((pb).num < 0))) := (hb.cell (p := ⟨wc.heap.size, 0, none⟩) hl_C).trans k_C_0
  have k_C_1_we : we.cell? ⟨wc.heap.size, 1, none⟩ = some (.slice rb (nlen (pb).num.natAbs) cb) := (hb.cell (p := ⟨wc.heap.size, 1, none⟩) hl_C).trans k_C_1
  have k_C_2_we : we.cell? ⟨wc.heap.size, 2, none⟩ = some (.slice rb2 (nlen (pb).den) cb2) := (hb.cell (p := ⟨wc.heap.size, 2, none⟩) hl_C).trans k_C_2
  have f_C_we : ∀ o, we.frozen? ⟨wc.heap.size, o, none⟩ = false := fun o => (hb.frozen (p := ⟨wc.heap.size, o, none⟩) hl_C).trans (f_C o)
  have HX_C_we := Lib.hid (HX_C.out.below hb)
  have HL1_we := Lib.hid (HL1.out.below hb)
  have HL2_we := Lib.hid (HL2.out.below hb)
  have HU1_we := Lib.hid (HU1.out.below hb)
  have HU2_we := Lib.hid (HU2.out.below hb)
  have HC1_we := Lib.hid (HC1.out.below hb)
  have HC2_we := Lib.hid (HC2.out.below hb)
  have HS1_we := Lib.hid (HS1.out.below hb)
  have HS2_we := Lib.hid (HS2.out.below hb)
  have HB_we := Lib.hid (HB.out.trans (hb.mono hs0))
  clear hb
  clear hl_A f_A HX_A k_A_0 k_A_1 k_A_2 hl_B f_B HX_B k_B_0 k_B_1 k_B_2 hl_C f_C HX_C k_C_0 k_C_1 k_C_2 HL1 HL2 HU1 HU2 HC1 HC2 HS1 HS2 HB hN hs0
  have hN := hN_we
  have HB := HB_we
  have hs0 := hs0_we
  have hl_A := hl_A_we
  have f_A := f_A_we
  have HX_A := HX_A_we
  have k_A_0 := k_A_0_we
  have k_A_1 := k_A_1_we
  have k_A_2 := k_A_2_we
  have hl_B := hl_B_we
  have f_B := f_B_we
  have HX_B := HX_B_we
  have k_B_0 := k_B_0_we
  have k_B_1 := k_B_1_we
  have k_B_2 := k_B_2_we
  have hl_C := hl_C_we
  have f_C := f_C_we
  have HX_C := HX_C_we
  have k_C_0 := k_C_0_we
  have k_C_1 := k_C_1_we
  have k_C_2 := k_C_2_we
  have HL1 := HL1_we
  have HL2 := HL2_we
  have HU1 := HU1_we
  have HU2 := HU2_we
  have HC1 := HC1_we
  have HC2 := HC2_we
  have HS1 := HS1_we
  have HS2 := HS2_we
  clear hN_we HB_we hs0_we hl_A_we f_A_we HX_A_we k_A_0_we k_A_1_we k_A_2_we hl_B_we f_B_we HX_B_we k_B_0_we k_B_1_we k_B_2_we hl_C_we f_C_we HX_C_we k_C_0_we k_C_1_we k_C_2_we HL1_we HL2_we HU1_we HU2_we HC1_we HC2_we HS1_we HS2_we
  clear HT HA
  have HT := HT_we
  have HA := HA_we
  clear HT_we HA_we
  have HQ1 := Lib.hid hn
  clear hn
  go_wp2_with fail
  refine (rcmp_any (N := N) _ _ _ _ _ _ _ _ _ _ _ _ _ _ 1 1 po po _ hN (Rt.of_norm HS1.out HS2.out _ HZo.out) HQ1.out (by omega) (by omega)).mono ?_
  rw [cmpQ_self]
  rintro e wf ⟨rfl, hb⟩
  have HT_wf := Lib.hid (HT.out.below hb)
  have HA_wf := Lib.hid (HA.out.below hb)
  have hN_wf : N ≤ wf.heap.size := Nat.le_trans hN hb.size
  have hs_wf : we.heap.size ≤ wf.heap.size := hb.size
  have hs0_wf : w.heap.size ≤ wf.heap.size := Nat.le_trans hs0 hb.size
  have hl_A_wf : wa.heap.size < wf.heap.size := Nat.lt_of_lt_of_le hl_A hb.size
  have k_A_0_wf : wf.cell? ⟨wa.heap.size, 0, none⟩ = some (.bool (decide ((pl).num < 0))) := (hb.cell (p := ⟨wa.heap.size, 0, none⟩) hl_A).trans k_A_0
  have k_A_1_wf : wf.cell? ⟨wa.heap.size, 1, none⟩ = some (.slice rl (nlen (pl).num.natAbs) cl) := (hb.cell (p := ⟨wa.heap.size, 1, none⟩) hl_A).trans k_A_1
  have k_A_2_wf : wf.cell? ⟨wa.heap.size, 2, none⟩ = some (.slice rl2 (nlen (pl).den) cl2) := (hb.cell (p := ⟨wa.heap.size, 2, none⟩) hl_A).trans k_A_2
  have f_A_wf : ∀ o, wf.frozen? ⟨wa.heap.size, o, none⟩ = false := fun o => (hb.frozen (p := ⟨wa.heap.size, o, none⟩) hl_A).trans (f_A o)
  have HX_A_wf := Lib.hid (HX_A.out.below hb)
  have hl_B_wf : wb.heap.size < wf.heap.size := Nat.lt_of_lt_of_le hl_B hb.size
  have k_B_0_wf : wf.cell? ⟨wb.heap.size, 0, none⟩ = some (.bool (decide ((pu).num < 0))) := (hb.cell (p := ⟨wb.heap.size, 0, none⟩) hl_B).trans k_B_0
  have k_B_1_wf : wf.cell? ⟨wb.heap.size, 1, none⟩ = some (.slice ru (nlen (pu).num.natAbs) cu) := (hb.cell (p := ⟨wb.heap.size, 1, none⟩) hl_B).trans k_B_1
  have k_B_2_wf : wf.cell? ⟨wb.heap.size, 2, none⟩ = some (.slice ru2 (nlen (pu).den) cu2) := (hb.cell (p := ⟨wb.heap.size, 2, none⟩) hl_B).trans k_B_2
  have f_B_wf : ∀ o, wf.frozen? ⟨wb.heap.size, o, none⟩ = false := fun o => (hb.frozen (p := ⟨wb.heap.size, o, none⟩) hl_B).trans (f_B o)
  have HX_B_wf := Lib.hid (HX_B.out.below hb)
  have hl_C_wf : wc.heap.size < wf.heap.size := Nat.lt_of_lt_of_le hl_C hb.size
  have k_C_0_wf : wf.cell? ⟨wc.heap.size, 0, none⟩ = some (.bool (decide ((pb).num < 0))) := (hb.cell (p := ⟨wc.heap.size, 0, none⟩) hl_C).trans k_C_0
  have k_C_1_wf : wf.cell? ⟨wc.heap.size, 1, none⟩ = some (.slice rb (nlen (pb).num.natAbs) cb) := (hb.cell (p := ⟨wc.heap.size, 1, none⟩) hl_C).trans k_C_1
  have k_C_2_wf : wf.cell? ⟨wc.heap.size, 2, none⟩ = some (.slice rb2 (nlen (pb).den) cb2) := (hb.cell (p := ⟨wc.heap.size, 2, none⟩) hl_C).trans k_C_2
  have f_C_wf : ∀ o, wf.frozen? ⟨wc.heap.size, o, none⟩ = false := fun o => (hb.frozen (p := ⟨wc.heap.size, o, none⟩) hl_C).trans (f_C o)
  have HX_C_wf := Lib.hid (HX_C.out.below hb)
  have HL1_wf := Lib.hid (HL1.out.below hb)
  have HL2_wf := Lib.hid (HL2.out.below hb)
  have HU1_wf := Lib.hid (HU1.out.below hb)
  have HU2_wf := Lib.hid (HU2.out.below hb)
  have HC1_wf := Lib.hid (HC1.out.below hb)
  have HC2_wf := Lib.hid (HC2.out.below hb)
  have HS1_wf := Lib.hid (HS1.out.below hb)
  have HS2_wf := Lib.hid (HS2.out.below hb)
  have HQ1_wf := Lib.hid (HQ1.out.below hb)
  have HB_wf := Lib.hid (HB.out.trans (hb.mono hs0))
  clear hb
  clear hl_A f_A HX_A k_A_0 k_A_1 k_A_2 hl_B f_B HX_B k_B_0 k_B_1 k_B_2 hl_C f_C HX_C k_C_0 k_C_1 k_C_2 HL1 HL2 HU1 HU2 HC1 HC2 HS1 HS2 HQ1 HB hN hs0
  have hN := hN_wf
  have HB := HB_wf
  have hs0 := hs0_wf
  have hl_A := hl_A_wf
  have f_A := f_A_wf
  have HX_A := HX_A_wf
  have k_A_0 := k_A_0_wf
  have k_A_1 := k_A_1_wf
  have k_A_2 := k_A_2_wf
  have hl_B := hl_B_wf
  have f_B := f_B_wf
  have HX_B := HX_B_wf
  have k_B_0 := k_B_0_wf
  have k_B_1 := k_B_1_wf
  have k_B_2 := k_B_2_wf
  have hl_C := hl_C_wf
  have f_C := f_C_wf
  have HX_C := HX_C_wf
  have k_C_0 := k_C_0_wf
  have k_C_1 := k_C_1_wf
  have k_C_2 := k_C_2_wf
  have HL1 := HL1_wf
  have HL2 := HL2_wf
  have HU1 := HU1_wf
  have HU2 := HU2_wf
  have HC1 := HC1_wf
  have HC2 := HC2_wf
  have HS1 := HS1_wf
  have HS2 := HS2_wf
  have HQ1 := HQ1_wf
  clear hN_wf HB_wf hs0_wf hl_A_wf f_A_wf HX_A_wf k_A_0_wf k_A_1_wf k_A_2_wf hl_B_wf f_B_wf HX_B_wf k_B_0_wf k_B_1_wf k_B_2_wf hl_C_wf f_C_wf HX_C_wf k_C_0_wf k_C_1_wf k_C_2_wf HL1_wf HL2_wf HU1_wf HU2_wf HC1_wf HC2_wf HS1_wf HS2_wf HQ1_wf
  clear HT HA
  have HT := HT_wf
  have HA := HA_wf
  clear HT_wf HA_wf
  clear HS1
  clear HS2
  clear HQ1
  clear hl_A f_A HX_A k_A_0 k_A_1 k_A_2
  clear HL1
  clear HL2
  go_wp2_with fail
  refine (rsign_any (N := N) _ _ _ _ _ _ _ 1 pb _ hN (Rt.of_norm HC1.out HC2.out 1 HZb.out)).mono ?_
  rw [HSb.out]
  rintro e wg ⟨rfl, hb⟩
  have HT_wg := Lib.hid (HT.out.below hb)
  have HA_wg := Lib.hid (HA.out.below hb)
  have hN_wg : N ≤ wg.heap.size := Nat.le_trans hN hb.size
  have hs_wg : wf.heap.size ≤ wg.heap.size := hb.size
  have hs0_wg : w.heap.size ≤ wg.heap.size := Nat.le_trans hs0 hb.size
  have hl_B_wg : wb.heap.size < wg.heap.size := Nat.lt_of_lt_of_le hl_B hb.size
  have k_B_0_wg : wg.cell? ⟨wb.heap.size, 0, none⟩ = some (.bool (decide ((pu).num < 0))) := (hb.cell (p := ⟨wb.heap.size, 0, none⟩) hl_B).trans k_B_0
  have k_B_1_wg : wg.cell? ⟨wb.heap.size, 1, none⟩ = some (.slice ru (nlen (pu).num.natAbs) cu) := (hb.cell (p := ⟨wb.heap.size, 1, none⟩) hl_B).trans k_B_1
  have k_B_2_wg : wg.cell? ⟨wb.heap.size, 2, none⟩ = some (.slice ru2 (nlen (pu).den) cu2) := (hb.cell (p := ⟨wb.heap.size, 2, none⟩) hl_B).trans k_B_2
  have f_B_wg : ∀ o, wg.frozen? ⟨wb.heap.size, o, none⟩ = false := fun o => (hb.frozen (p := ⟨wb.heap.size, o, none⟩) hl_B).trans (f_B o)
  have HX_B_wg := Lib.hid (HX_B.out.below hb)
  have hl_C_wg : wc.heap.size < wg.heap.size := Nat.lt_of_lt_of_le hl_C hb.size
  have k_C_0_wg : wg.cell? ⟨wc.heap.size, 0, none⟩ = some (.bool (decide ((pb).num < 0))) := (hb.cell (p := ⟨wc.heap.size, 0, none⟩) hl_C).trans k_C_0
  have k_C_1_wg : wg.cell? ⟨wc.heap.size, 1, none⟩ = some (.slice rb (nlen (pb).num.natAbs) cb) := (hb.cell (p := ⟨wc.heap.size, 1, none⟩) hl_C).trans k_C_1
  have k_C_2_wg : wg.cell? ⟨wc.heap.size, 2, none⟩ = some (.slice rb2 (nlen (pb).den) cb2) := (hb.cell (p := ⟨wc.heap.size, 2, none⟩) hl_C).trans k_C_2
  have f_C_wg : ∀ o, wg.frozen? ⟨wc.heap.size, o, none⟩ = false := fun o => (hb.frozen (p := ⟨wc.heap.size, o, none⟩) hl_C).trans (f_C o)
  have HX_C_wg := Lib.hid (HX_C.out.below hb)
  have HU1_wg := Lib.hid (HU1.out.below hb)
  have HU2_wg := Lib.hid (HU2.out.below hb)
  have HC1_wg := Lib.hid (HC1.out.below hb)
  have HC2_wg := Lib.hid (HC2.out.below hb)
  have HB_wg := Lib.hid (HB.out.trans (hb.mono hs0))
  clear hb
  clear hl_B f_B HX_B k_B_0 k_B_1 k_B_2 hl_C f_C HX_C k_C_0 k_C_1 k_C_2 HU1 HU2 HC1 HC2 HB hN hs0
  have hN := hN_wg
  have HB := HB_wg
  have hs0 := hs0_wg
  have hl_B := hl_B_wg
  have f_B := f_B_wg
  have HX_B := HX_B_wg
  have k_B_0 := k_B_0_wg
  have k_B_1 := k_B_1_wg
  have k_B_2 := k_B_2_wg
  have hl_C := hl_C_wg
  have f_C := f_C_wg
  have HX_C := HX_C_wg
  have k_C_0 := k_C_0_wg
  have k_C_1 := k_C_1_wg
  have k_C_2 := k_C_2_wg
  have HU1 := HU1_wg
  have HU2 := HU2_wg
  have HC1 := HC1_wg
  have HC2 := HC2_wg
  clear hN_wg HB_wg hs0_wg hl_B_wg f_B_wg HX_B_wg k_B_0_wg k_B_1_wg k_B_2_wg hl_C_wg f_C_wg HX_C_wg k_C_0_wg k_C_1_wg k_C_2_wg HU1_wg HU2_wg HC1_wg HC2_wg
  clear HT HA
  have HT := HT_wg
  have HA := HA_wg
  clear HT_wg HA_wg
  go_wp2_with fail
  refine (rsign_any (N := N) _ _ _ _ _ _ _ (L * 125 + 9) pu _ hN (Rt.of_norm HU1.out HU2.out _ HZu.out)).mono ?_
  rw [HSu.out]
  rintro e wh ⟨rfl, hb⟩
  have HT_wh := Lib.hid (HT.out.below hb)
  have HA_wh := Lib.hid (HA.out.below hb)
  have hN_wh : N ≤ wh.heap.size := Nat.le_trans hN hb.size
  have hs_wh : wg.heap.size ≤ wh.heap.size := hb.size
  have hs0_wh : w.heap.size ≤ wh.heap.size := Nat.le_trans hs0 hb.size
  have hl_B_wh : wb.heap.size < wh.heap.size := Nat.lt_of_lt_of_le hl_B hb.size
  have k_B_0_wh : wh.cell? ⟨wb.heap.size, 0, none⟩ = some (.bool (decide ((pu).num < 0))) := (hb.cell (p := ⟨wb.heap.size, 0, none⟩) hl_B).trans k_B_0
  have k_B_1_wh : wh.cell? ⟨wb.heap.size, 1, none⟩ = some (.slice ru (nlen (pu).num.natAbs) cu) := (hb.cell (p := ⟨wb.heap.size, 1, none⟩) hl_B).trans k_B_1
  have k_B_2_wh : wh.cell? ⟨wb.heap.size, 2, none⟩ = some (.slice ru2 (nlen (pu).den) cu2) := (hb.cell (p := ⟨wb.heap.size, 2, none⟩) hl_B).trans k_B_2
  have f_B_wh : ∀ o, wh.frozen? ⟨wb.heap.size, o, none⟩ = false := fun o => (hb.frozen (p := ⟨wb.heap.size, o, none⟩) hl_B).trans (f_B o)
  have HX_B_wh := Lib.hid (HX_B.out.below hb)
  have hl_C_wh : wc.heap.size < wh.heap.size := Nat.lt_of_lt_of_le hl_C hb.size
  have k_C_0_wh : wh.cell? ⟨wc.heap.size, 0, none⟩ = some (.bool (decide ((pb).num < 0))) := (hb.cell (p := ⟨wc.heap.size, 0, none⟩) hl_C).trans k_C_0
  have k_C_1_wh : wh.cell? ⟨wc.heap.size, 1, none⟩ = some (.slice rb (nlen (pb).num.natAbs) cb) := (hb.cell (p := ⟨wc.heap.size, 1, none⟩) hl_C).trans k_C_1
  have k_C_2_wh : wh.cell? ⟨wc.heap.size, 2, none⟩ = some (.slice rb2 (nlen (pb).den) cb2) := (hb.cell (p := ⟨wc.heap.size, 2, none⟩) hl_C).trans k_C_2
  have f_C_wh : ∀ o, wh.frozen? ⟨wc.heap.size, o, none⟩ = false := fun o => (hb.frozen (p := ⟨wc.heap.size, o, none⟩) hl_C).trans (f_C o)
  have HX_C_wh := Lib.hid (HX_C.out.below hb)
  have HU1_wh := Lib.hid (HU1.out.below hb)
  have HU2_wh := Lib.hid (HU2.out.below hb)
  have HC1_wh := Lib.hid (HC1.out.below hb)
  have HC2_wh := Lib.hid (HC2.out.below hb)
  have HB_wh := Lib.hid (HB.out.trans (hb.mono hs0))
  clear hb
  clear hl_B f_B HX_B k_B_0 k_B_1 k_B_2 hl_C f_C HX_C k_C_0 k_C_1 k_C_2 HU1 HU2 HC1 HC2 HB hN hs0
  have hN := hN_wh
  have HB := HB_wh
  have hs0 := hs0_wh
  have hl_B := hl_B_wh
  have f_B := f_B_wh
  have HX_B := HX_B_wh
  have k_B_0 := k_B_0_wh
  have k_B_1 := k_B_1_wh
  have k_B_2 := k_B_2_wh
  have hl_C := hl_C_wh
  have f_C := f_C_wh
  have HX_C := HX_C_wh
  have k_C_0 := k_C_0_wh
  have k_C_1 := k_C_1_wh
  have k_C_2 := k_C_2_wh
  have HU1 := HU1_wh
  have HU2 := HU2_wh
  have HC1 := HC1_wh
  have HC2 := HC2_wh
  clear hN_wh HB_wh hs0_wh hl_B_wh f_B_wh HX_B_wh k_B_0_wh k_B_1_wh k_B_2_wh hl_C_wh f_C_wh HX_C_wh k_C_0_wh k_C_1_wh k_C_2_wh HU1_wh HU2_wh HC1_wh HC2_wh
  clear HT HA
  have HT := HT_wh
  have HA := HA_wh
  clear HT_wh HA_wh
  go_wp2_with fail
  refine (awake_any (N := N) _ hN HT.out).mono ?_
  rintro e wi ⟨rfl, hb⟩
  have HT_wi := Lib.hid (HT.out.below hb)
  have HA_wi := Lib.hid (HA.out.below hb)
  have hN_wi : N ≤ wi.heap.size := Nat.le_trans hN hb.size
  have hs_wi : wh.heap.size ≤ wi.heap.size := hb.size
  have hs0_wi : w.heap.size ≤ wi.heap.size := Nat.le_trans hs0 hb.size
  have hl_B_wi : wb.heap.size < wi.heap.size := Nat.lt_of_lt_of_le hl_B hb.size
  have k_B_0_wi : wi.cell? ⟨wb.heap.size, 0, none⟩ = some (.bool (decide ((pu).num < 0))) := (hb.cell (p := ⟨wb.heap.size, 0, none⟩) hl_B).trans k_B_0
  have k_B_1_wi : wi.cell? ⟨wb.heap.size, 1, none⟩ = some (.slice ru (nlen (pu).num.natAbs) cu) := (hb.cell (p := ⟨wb.heap.size, 1, none⟩) hl_B).trans k_B_1
  have k_B_2_wi : wi.cell? ⟨wb.heap.size, 2, none⟩ = some (.slice ru2 (nlen (pu).den) cu2) := (hb.cell (p := ⟨wb.heap.size, 2, none⟩) hl_B).trans k_B_2
  have f_B_wi : ∀ o, wi.frozen? ⟨wb.heap.size, o, none⟩ = false := fun o => (hb.frozen (p := ⟨wb.heap.size, o, none⟩) hl_B).trans (f_B o)
  have HX_B_wi := Lib.hid (HX_B.out.below hb)
  have hl_C_wi : wc.heap.size < wi.heap.size := Nat.lt_of_lt_of_le hl_C hb.size
  have k_C_0_wi : wi.cell? ⟨wc.heap.size, 0, none⟩ = some (.bool (decide ((pb).num < 0))) := (hb.cell (p := ⟨wc.heap.size, 0, none⟩) hl_C).trans k_C_0
  have k_C_1_wi : wi.cell? ⟨wc.heap.size, 1, none⟩ = some (.slice rb (nlen (pb).num.natAbs) cb) := (hb.cell (p := ⟨wc.heap.size, 1, none⟩) hl_C).trans k_C_1
  have k_C_2_wi : wi.cell? ⟨wc.heap.size, 2, none⟩ = some (.slice rb2 (nlen (pb).den) cb2) := (hb.cell (p := ⟨wc.heap.size, 2, none⟩) hl_C).trans k_C_2
  have f_C_wi : ∀ o, wi.frozen? ⟨wc.heap.size, o, none⟩ = false := fun o => (hb.frozen (p := ⟨wc.heap.size, o, none⟩) hl_C).trans (f_C o)
  have HX_C_wi := Lib.hid (HX_C.out.below hb)
  have HU1_wi := Lib.hid (HU1.out.below hb)
  have HU2_wi := Lib.hid (HU2.out.below hb)
  have HC1_wi := Lib.hid (HC1.out.below hb)
  have HC2_wi := Lib.hid (HC2.out.below hb)
  have HB_wi := Lib.hid (HB.out.trans (hb.mono hs0))
  clear hb
  clear hl_B f_B HX_B k_B_0 k_B_1 k_B_2 hl_C f_C HX_C k_C_0 k_C_1 k_C_2 HU1 HU2 HC1 HC2 HB hN hs0
  have hN := hN_wi
  have HB := HB_wi
  have hs0 := hs0_wi
  have hl_B := hl_B_wi
  have f_B := f_B_wi
  have HX_B := HX_B_wi
  have k_B_0 := k_B_0_wi
  have k_B_1 := k_B_1_wi
  have k_B_2 := k_B_2_wi
  have hl_C := hl_C_wi
  have f_C := f_C_wi
  have HX_C := HX_C_wi
  have k_C_0 := k_C_0_wi
  have k_C_1 := k_C_1_wi
  have k_C_2 := k_C_2_wi
  have HU1 := HU1_wi
  have HU2 := HU2_wi
  have HC1 := HC1_wi
  have HC2 := HC2_wi
  clear hN_wi HB_wi hs0_wi hl_B_wi f_B_wi HX_B_wi k_B_0_wi k_B_1_wi k_B_2_wi hl_C_wi f_C_wi HX_C_wi k_C_0_wi k_C_1_wi k_C_2_wi HU1_wi HU2_wi HC1_wi HC2_wi
  clear HT HA
  have HT := HT_wi
  have HA := HA_wi
  clear HT_wi HA_wi
  go_wp2_with fail
  go_ret
  exact ⟨rfl, HB.out⟩

def TwoJ (κ κ2 : Int) (pb : Rat) (rb rb2 : Option Addr) (cb cb2 : Nat) (s : Bool) (ra da : Option Addr) (rn rc dn dc b0 o0 j cap k : Nat) (W : World) (z0 : Act) (L : Nat → Bool) (z1 : Act) (w : World) : Prop :=
  ∃ u106 u107 u108 u109 u110 u111 u112 u113 u114 u115 u116 u117 u118 u119 u120 u121 u122 u123 u124 u125 u126 u127 u4, z1 = (((((((((((((((((((((((z0.put (some 106) u106).put (some 107) u107).put (some 108) u108).put (some 109) u109).put (some 110) u110).put (some 111) u111).put (some 112) u112).put (some 113) u113).put (some 114) u114).put (some 115) u115).put (some 116) u116).put (some 117) u117).put (some 118) u118).put (some 119) u119).put (some 120) u120).put (some 121) u121).put (some 122) u122).put (some 123) u123).put (some 124) u124).put (some 125) u125).put (some 126) u126).put (some 127) u127).put (some 4) u4) ∧ Since W w ∧ (L 0 = true → u106 = .int .i64 κ) ∧ (L 1 = true → u107 = .bool true) ∧ (L 2 = true → u108 = .bool true) ∧ (L 3 = true → u109 = .bool false) ∧ (L 4 = true → u110 = .bool true) ∧ (L 5 = true → u111 = .bool true) ∧ (L 8 = true → u114 = .bool true) ∧ (L 9 = true → u115 = .bool true) ∧ (L 10 = true → u116 = .bool true) ∧ (L 11 = true → u117 = .agg #[.bool (decide ((pb).num < 0)), .slice rb (nlen (pb).num.natAbs) cb, .slice rb2 (nlen (pb).den) cb2]) ∧ (L 12 = true → u118 = .slice (some ⟨b0, o0, none⟩) j cap) ∧ (L 13 = true → u119 = .int .u8 k) ∧ (L 14 = true → u120 = .pointer (some ⟨b0, o0 + k * 3, none⟩)) ∧ (L 15 = true → u121 = .agg #[.bool s, .slice ra rn rc, .slice da dn dc]) ∧ (L 16 = true → u122 = .int .i64 κ2) ∧ (L 17 = true → u123 = .bool true) ∧ (L 18 = true → u124 = .bool true) ∧ (L 19 = true → u125 = .bool true) ∧ (L 20 = true → u126 = .bool true) ∧ (L 21 = true → u127 = .bool true) ∧ (L 22 = true → u4 = .bool true)


theorem rcmp_x {N : Nat} (s s' : Bool) (a d a' d' : Option Addr) (na ca nd cd na' ca' nd' cd' L L' : Nat) (q q' : Rat) (w : World) (hN : N ≤ w.heap.size) (h : Rt N w s a na ca d nd cd q L) (h' : Rt N w s' a' na' ca' d' nd' cd' q' L') (hL : L ≤ 68719476736) (hL' : L' ≤ 68719476736) (x : Int) (hx : cmpQ q q' = x) :
    Calls Tryd.prog 16 #[.agg #[.bool s, .slice a na ca, .slice d nd cd], .agg #[.bool s', .slice a' na' ca', .slice d' nd' cd']] w fun e w' => e = .returned (.int .i64 x) ∧ Below w.heap.size w w' := by
  subst hx; exact rcmp_any s s' a d a' d' na ca nd cd na' ca' nd' cd' L L' q q' w hN h h' hL hL'

set_option maxRecDepth 20000 in
set_option maxHeartbeats 16000000 in
theorem two_in {N : Nat} (a : Option Addr) (n cap : Nat) (q : Nat → Rat) (L k : Nat) (w : World) (hN : N ≤ w.heap.size) (h : Rs N w a n cap q L) (hL : L ≤ 2097152) (htab : TabW w) (hk : k ≤ 255) (hv : valid q n = true) (hkn : k < n) :
    Calls Tryd.prog 7 #[.slice a n cap, .int .u8 k] w fun e w' => e = .returned (.bool true) ∧ Below w.heap.size w w' := by
  obtain ⟨n0, n121, hge, hsum⟩ := valid_iff.1 hv
  have HV := Lib.hid hv
  obtain ⟨K, hK⟩ : ∃ K, min (k + 1) n = K := ⟨_, rfl⟩
  have hKn : K ≤ n := by omega
  have HK1 := Lib.hid (show min ((k : Int) + 1).toNat n = K by omega)
  obtain ⟨pl, hpl⟩ : ∃ p, sQ q K = p := ⟨_, rfl⟩
  obtain ⟨pu, hpu⟩ : ∃ p, upQ q n K = p := ⟨_, rfl⟩
  obtain ⟨po, hpo⟩ : ∃ p : Rat, p = 1 := ⟨_, rfl⟩
  have HPl := Lib.hid hpl
  have HPu := Lib.hid hpu
  have HSum := Lib.hid (show pl + pu = po by rw [← hpl, ← hpu, hpo]; exact low_up q n K hKn hsum)
  have HOne := Lib.hid (show frq 1 1 = po by rw [hpo]; exact rat_one7)
  have hld : nlen (lcN (deQ q) n) ≤ L * n + 1 := lcN_len (fun i hi => by have := h.lim i hi; unfold rsz at this; unfold deQ; omega)
  have hm4 : L * n ≤ L * 121 := Nat.mul_le_mul_left _ n121
  have HZl := Lib.hid (show rsz pl ≤ L * 125 + 9 by rw [← hpl, ← low_frq hge K hKn]; exact frq_len _ _ _ (by omega) (by have := nlen_sN (nmN q n) K (L * 122 + 1) (fun i hi => nm_len h hm4 hld i (by omega)) (by omega); omega) (by omega))
  have HZu := Lib.hid (show rsz pu ≤ L * 125 + 9 by rw [← hpu, ← up_frq hge K]; exact frq_len _ _ _ (by omega) (by have := nlen_sN (fun i => nmN q n (K + i)) (n - K) (L * 122 + 1) (fun i hi => nm_len h hm4 hld (K + i) (by omega)) (by omega); omega) (by omega))
  have HZo := Lib.hid (show rsz po ≤ 1 by rw [hpo]; exact rsz_one)
  obtain ⟨pb, hpb⟩ : ∃ p : Rat, bothQ q n k = p := ⟨_, rfl⟩
  have HPb := Lib.hid hpb
  have HZb := Lib.hid (show rsz pb ≤ L * 125 + 9 by rw [← hpb, ← both_frq hge k hkn]; exact frq_len _ _ _ (by omega) (by have := nlen_sN (bothN q n k) n (L * 122 + 1) (fun i hi => by unfold bothN; have := nm_len h hm4 hld i hi; by_cases hh : nmN q n i ≤ nmN q n k; (· rw [if_pos hh]; exact this); (· rw [if_neg hh, nlen_zero]; omega)) (by omega); omega) (by omega))
  have HLe := Lib.hid (show pb ≤ 1 by rw [← hpb]; exact both_le q n k hge hsum)
  have HGe := Lib.hid (show q k ≤ pb by rw [← hpb]; exact both_ge q n k hge hkn)
  have HTop := Lib.hid (show (∀ i, i < n → q i ≤ q k) → pb = 1 from fun e => by rw [← hpb]; exact both_top q n k hsum e)
  have HPo := Lib.hid hpo
  have d1 : decide ((n : Int) ≤ (k : Int)) = false := by simp; omega
  have d2 : decide (n ≤ k) = false := by simp; omega
  clear hv hpl hpu hsum hld hm4 hge hpb hpo hK
  have hN0 := hN
  have HT := Lib.hid htab
  have HA := Lib.hid h
  have bc1 := h.1
  have bc2 := h.2.1
  unfold maxLen at bc2
  clear htab h
  have HB := Lib.hid (Below.refl w.heap.size w)
  go_enter Tryd.func7, Tryd.ntmps7
  go_wp2_with fail
  refine calls_name fun W0 hW => ?_
  have hN_W0 : N ≤ W0.heap.size := by rw [← hW]; (first | omega | (simp; done) | (simp; omega))
  have hs_W0 : w.heap.size ≤ W0.heap.size := by rw [← hW]; (first | omega | (simp; done) | (simp; omega))
  have hs0_W0 : w.heap.size ≤ W0.heap.size := by rw [← hW]; (first | omega | (simp; done) | (simp; omega))
  have HB_W0 := Lib.hid (show Below w.heap.size w W0 by rw [← hW]; (repeat' (first | with_reducible exact Below.refl _ _ | with_reducible exact HB.out | (with_reducible refine Below.alloc ?_ ?_ _; rotate_left; (focus (first | omega | (simp; done) | (simp; omega)))) | with_reducible apply Below.drew | (with_reducible refine Below.setCell ?_ ?_ _; rotate_left; (focus (first | omega | (simp; done) | (simp; omega)))))))
  have HL_W0 := Lib.hid (show Below w.heap.size w W0 by rw [← hW]; (repeat' (first | with_reducible exact Below.refl _ _ | (with_reducible refine Below.alloc ?_ ?_ _; rotate_left; (focus (first | omega | (simp; done) | (simp; omega)))) | with_reducible apply Below.drew | (with_reducible refine Below.setCell ?_ ?_ _; rotate_left; (focus (first | omega | (simp; done) | (simp; omega)))))))
  have HT_W0 := Lib.hid (HT.out.below HL_W0.out)
  have HA_W0 := Lib.hid (HA.out.below HL_W0.out)
  clear HL_W0
  clear hW
  clear HB hN
  have hN := hN_W0
  have HB := HB_W0
  have hs0 := hs0_W0
  clear hN_W0 HB_W0 hs0_W0
  clear HT HA
  have HT := HT_W0
  have HA := HA_W0
  clear HT_W0 HA_W0
  refine (Lower_ok (N := N) _ _ _ q L _ hN HA.out hL HV.out (k : Int) (by omega) (by omega) K HK1.out pl HPl.out).mono ?_
  rintro e wa ⟨rl, cl, rl2, cl2, rfl, hn, hn', hb⟩
  have HT_wa := Lib.hid (HT.out.below hb)
  have HA_wa := Lib.hid (HA.out.below hb)
  have hN_wa : N ≤ wa.heap.size := Nat.le_trans hN hb.size
  have hs_wa : W0.heap.size ≤ wa.heap.size := hb.size
  have hs0_wa : w.heap.size ≤ wa.heap.size := Nat.le_trans hs0 hb.size
  have HB_wa := Lib.hid (HB.out.trans (hb.mono hs0))
  clear hb
  clear HB hN hs0
  have hN := hN_wa
  have HB := HB_wa
  have hs0 := hs0_wa
  clear hN_wa HB_wa hs0_wa
  clear HT HA
  have HT := HT_wa
  have HA := HA_wa
  clear HT_wa HA_wa
  have HL1 := Lib.hid hn
  clear hn
  have HL2 := Lib.hid hn'
  clear hn'
  go_wp2_with fail
  refine calls_name fun W1 hW => ?_
  have hN_W1 : N ≤ W1.heap.size := by rw [← hW]; (first | omega | (simp; done) | (simp; omega))
  have hs_W1 : wa.heap.size ≤ W1.heap.size := by rw [← hW]; (first | omega | (simp; done) | (simp; omega))
  have hs0_W1 : w.heap.size ≤ W1.heap.size := by rw [← hW]; (first | omega | (simp; done) | (simp; omega))
  have hl_A_W1 : wa.heap.size < W1.heap.size := by rw [← hW]; (first | omega | (simp; done) | (simp; omega))
  have k_A_0_W1 : W1.cell? ⟨wa.heap.size, 0, none⟩ = some (.bool (decide ((pl).num < 0))) := by rw [← hW]; (first | (go_simp; done) | (simp; done) | (simp [go_sem]; done) | (simp [go_sem]; done))
  have k_A_1_W1 : W1.cell? ⟨wa.heap.size, 1, none⟩ = some (.slice rl (nlen (pl).num.natAbs) cl) := by rw [← hW]; (first | (go_simp; done) | (simp; done) | (simp [go_sem]; done) | (simp [go_sem]; done))
  have k_A_2_W1 : W1.cell? ⟨wa.heap.size, 2, none⟩ = some (.slice rl2 (nlen (pl).den) cl2) := by rw [← hW]; (first | (go_simp; done) | (simp; done) | (simp [go_sem]; done) | (simp [go_sem]; done))
  have f_A_W1 : ∀ o, W1.frozen? ⟨wa.heap.size, o, none⟩ = false := by intro o; rw [← hW]; (first | (go_simp; done) | (simp; done) | (simp [go_sem]; done) | (simp [go_sem]; done))
  have HX_A_W1 := Lib.hid (show Bn W1 (wa.heap.size) by rw [← hW]; (repeat' (first | with_reducible exact Kp.refl _ _ | with_reducible apply Kp.alloc | with_reducible apply Kp.drew | (with_reducible refine Kp.put ?_ ?_ ?_ _; rotate_left; (focus (first | omega | (simp; done) | (simp; omega))); rotate_left) | (with_reducible refine Bn.new _ _ _ _ ?_ ?_; (focus (first | omega | (simp; done) | (simp; omega))); decide) | with_reducible apply Bn.alloc | with_reducible apply Bn.drew | with_reducible apply Bn.set)))
  have HK_W1 := Lib.hid (show Kp N wa W1 by rw [← hW]; (repeat' (first | with_reducible exact Kp.refl _ _ | with_reducible apply Kp.alloc | with_reducible apply Kp.drew | (with_reducible refine Kp.put ?_ ?_ ?_ _; rotate_left; (focus (first | omega | (simp; done) | (simp; omega))); rotate_left) | (with_reducible refine Bn.new _ _ _ _ ?_ ?_; (focus (first | omega | (simp; done) | (simp; omega))); decide) | with_reducible apply Bn.alloc | with_reducible apply Bn.drew | with_reducible apply Bn.set)))
  have HL1_W1 := Lib.hid (HL1.out.keep HK_W1.out)
  have HL2_W1 := Lib.hid (HL2.out.keep HK_W1.out)
  have HB_W1 := Lib.hid (show Below w.heap.size w W1 by rw [← hW]; (repeat' (first | with_reducible exact Below.refl _ _ | with_reducible exact HB.out | (with_reducible refine Below.alloc ?_ ?_ _; rotate_left; (focus (first | omega | (simp; done) | (simp; omega)))) | with_reducible apply Below.drew | (with_reducible refine Below.setCell ?_ ?_ _; rotate_left; (focus (first | omega | (simp; done) | (simp; omega)))))))
  have HL_W1 := Lib.hid (show Below wa.heap.size wa W1 by rw [← hW]; (repeat' (first | with_reducible exact Below.refl _ _ | (with_reducible refine Below.alloc ?_ ?_ _; rotate_left; (focus (first | omega | (simp; done) | (simp; omega)))) | with_reducible apply Below.drew | (with_reducible refine Below.setCell ?_ ?_ _; rotate_left; (focus (first | omega | (simp; done) | (simp; omega)))))))
  have HT_W1 := Lib.hid (HT.out.below HL_W1.out)
  have HA_W1 := Lib.hid (HA.out.below HL_W1.out)
  clear HL_W1
  clear hW HK_W1
  clear HL1 HL2 HB hN hs0
  have hN := hN_W1
  have HB := HB_W1
  have hs0 := hs0_W1
  have hl_A := hl_A_W1
  have f_A := f_A_W1
  have HX_A := HX_A_W1
  have k_A_0 := k_A_0_W1
  have k_A_1 := k_A_1_W1
  have k_A_2 := k_A_2_W1
  have HL1 := HL1_W1
  have HL2 := HL2_W1
  clear hN_W1 HB_W1 hs0_W1 hl_A_W1 f_A_W1 HX_A_W1 k_A_0_W1 k_A_1_W1 k_A_2_W1 HL1_W1 HL2_W1
  clear HT HA
  have HT := HT_W1
  have HA := HA_W1
  clear HT_W1 HA_W1
  refine (Upper_ok (N := N) _ _ _ q L _ hN HA.out hL HV.out ((k : Int) + 1) (by omega) (by omega) K HK1.out pu HPu.out).mono ?_
  rintro e wb ⟨ru, cu, ru2, cu2, rfl, hn, hn', hb⟩
  have HT_wb := Lib.hid (HT.out.below hb)
  have HA_wb := Lib.hid (HA.out.below hb)
  have hN_wb : N ≤ wb.heap.size := Nat.le_trans hN hb.size
  have hs_wb : W1.heap.size ≤ wb.heap.size := hb.size
  have hs0_wb : w.heap.size ≤ wb.heap.size := Nat.le_trans hs0 hb.size
  have hl_A_wb : wa.heap.size < wb.heap.size := Nat.lt_of_lt_of_le hl_A hb.size
  have k_A_0_wb : wb.cell? ⟨wa.heap.size, 0, none⟩ = some (.bool (decide ((pl).num < 0))) := (hb.cell (p := ⟨wa.heap.size, 0, none⟩) hl_A).trans k_A_0
  have k_A_1_wb : wb.cell? ⟨wa.heap.size, 1, none⟩ = some (.slice rl (nlen (pl).num.natAbs) cl) := (hb.cell (p := ⟨wa.heap.size, 1, none⟩) hl_A).trans k_A_1
  have k_A_2_wb : wb.cell? ⟨wa.heap.size, 2, none⟩ = some (.slice rl2 (nlen (pl).den) cl2) := (hb.cell (p := ⟨wa.heap.size, 2, none⟩) hl_A).trans k_A_2
  have f_A_wb : ∀ o, wb.frozen? ⟨wa.heap.size, o, none⟩ = false := fun o => (hb.frozen (p := ⟨wa.heap.size, o, none⟩) hl_A).trans (f_A o)
  have HX_A_wb := Lib.hid (HX_A.out.below hb)
  have HL1_wb := Lib.hid (HL1.out.below hb)
  have HL2_wb := Lib.hid (HL2.out.below hb)
  have HB_wb := Lib.hid (HB.out.trans (hb.mono hs0))
  clear hb
  clear hl_A f_A HX_A k_A_0 k_A_1 k_A_2 HL1 HL2 HB hN hs0
  have hN := hN_wb
  have HB := HB_wb
  have hs0 := hs0_wb
  have hl_A := hl_A_wb
  have f_A := f_A_wb
  have HX_A := HX_A_wb
  have k_A_0 := k_A_0_wb
  have k_A_1 := k_A_1_wb
  have k_A_2 := k_A_2_wb
  have HL1 := HL1_wb
  have HL2 := HL2_wb
  clear hN_wb HB_wb hs0_wb hl_A_wb f_A_wb HX_A_wb k_A_0_wb k_A_1_wb k_A_2_wb HL1_wb HL2_wb
  clear HT HA
  have HT := HT_wb
  have HA := HA_wb
  clear HT_wb HA_wb
  have HU1 := Lib.hid hn
  clear hn
  have HU2 := Lib.hid hn'
  clear hn'
  go_wp2_with fail
  refine calls_name fun W2 hW => ?_
  have HL_W2 := Lib.hid (show Below wb.heap.size wb W2 by rw [← hW]; (repeat' (first | with_reducible exact Below.refl _ _ | (with_reducible refine Below.alloc ?_ ?_ _; rotate_left; (focus (first | omega | (simp; done) | (simp; omega)))) | with_reducible apply Below.drew | (with_reducible refine Below.setCell ?_ ?_ _; rotate_left; (focus (first | omega | (simp; done) | (simp; omega)))))))
  have hN_W2 : N ≤ W2.heap.size := by rw [← hW]; (first | omega | (simp; done) | (simp; omega))
  have hs_W2 : wb.heap.size ≤ W2.heap.size := by rw [← hW]; (first | omega | (simp; done) | (simp; omega))
  have hs0_W2 : w.heap.size ≤ W2.heap.size := by rw [← hW]; (first | omega | (simp; done) | (simp; omega))
  have hd_A_B : wa.heap.size < wb.heap.size := by omega
  have hl_A_W2 : wa.heap.size < W2.heap.size := by rw [← hW]; (first | omega | (simp; done) | (simp; omega))
  have k_A_0_W2 : W2.cell? ⟨wa.heap.size, 0, none⟩ = some (.bool (decide ((pl).num < 0))) := (HL_W2.out.cell (p := ⟨wa.heap.size, 0, none⟩) hl_A).trans k_A_0
  have k_A_1_W2 : W2.cell? ⟨wa.heap.size, 1, none⟩ = some (.slice rl (nlen (pl).num.natAbs) cl) := (HL_W2.out.cell (p := ⟨wa.heap.size, 1, none⟩) hl_A).trans k_A_1
  have k_A_2_W2 : W2.cell? ⟨wa.heap.size, 2, none⟩ = some (.slice rl2 (nlen (pl).den) cl2) := (HL_W2.out.cell (p := ⟨wa.heap.size, 2, none⟩) hl_A).trans k_A_2
  have f_A_W2 : ∀ o, W2.frozen? ⟨wa.heap.size, o, none⟩ = false := fun o => (HL_W2.out.frozen (p := ⟨wa.heap.size, o, none⟩) hl_A).trans (f_A o)
  have HX_A_W2 := Lib.hid (show Bn W2 (wa.heap.size) by rw [← hW]; (repeat' (first | with_reducible exact Kp.refl _ _ | with_reducible exact HX_A.out | with_reducible apply Kp.alloc | with_reducible apply Kp.drew | (with_reducible refine Kp.put ?_ ?_ ?_ _; rotate_left; (focus (first | omega | (simp; done) | (simp; omega))); rotate_left) | (with_reducible refine Bn.new _ _ _ _ ?_ ?_; (focus (first | omega | (simp; done) | (simp; omega))); decide) | with_reducible apply Bn.alloc | with_reducible apply Bn.drew | with_reducible apply Bn.set)))
  have hl_B_W2 : wb.heap.size < W2.heap.size := by rw [← hW]; (first | omega | (simp; done) | (simp; omega))
  have k_B_0_W2 : W2.cell? ⟨wb.heap.size, 0, none⟩ = some (.bool (decide ((pu).num < 0))) := by rw [← hW]; (first | (go_simp; done) | (simp; done) | (simp [go_sem]; done) | (simp [go_sem, k_A_0, k_A_1, k_A_2, f_A, hl_A]; done))
  have k_B_1_W2 : W2.cell? ⟨wb.heap.size, 1, none⟩ = some (.slice ru (nlen (pu).num.natAbs) cu) := by rw [← hW]; (first | (go_simp; done) | (simp; done) | (simp [go_sem]; done) | (simp [go_sem, k_A_0, k_A_1, k_A_2, f_A, hl_A]; done))
  have k_B_2_W2 : W2.cell? ⟨wb.heap.size, 2, none⟩ = some (.slice ru2 (nlen (pu).den) cu2) := by rw [← hW]; (first | (go_simp; done) | (simp; done) | (simp [go_sem]; done) | (simp [go_sem, k_A_0, k_A_1, k_A_2, f_A, hl_A]; done))
  have f_B_W2 : ∀ o, W2.frozen? ⟨wb.heap.size, o, none⟩ = false := by intro o; rw [← hW]; (first | (go_simp; done) | (simp; done) | (simp [go_sem]; done) | (simp [go_sem, k_A_0, k_A_1, k_A_2, f_A, hl_A]; done))
  have HX_B_W2 := Lib.hid (show Bn W2 (wb.heap.size) by rw [← hW]; (repeat' (first | with_reducible exact Kp.refl _ _ | with_reducible exact HX_A.out | with_reducible apply Kp.alloc | with_reducible apply Kp.drew | (with_reducible refine Kp.put ?_ ?_ ?_ _; rotate_left; (focus (first | omega | (simp; done) | (simp; omega))); rotate_left) | (with_reducible refine Bn.new _ _ _ _ ?_ ?_; (focus (first | omega | (simp; done) | (simp; omega))); decide) | with_reducible apply Bn.alloc | with_reducible apply Bn.drew | with_reducible apply Bn.set)))
  have HK_W2 := Lib.hid (show Kp N wb W2 by rw [← hW]; (repeat' (first | with_reducible exact Kp.refl _ _ | with_reducible exact HX_A.out | with_reducible apply Kp.alloc | with_reducible apply Kp.drew | (with_reducible refine Kp.put ?_ ?_ ?_ _; rotate_left; (focus (first | omega | (simp; done) | (simp; omega))); rotate_left) | (with_reducible refine Bn.new _ _ _ _ ?_ ?_; (focus (first | omega | (simp; done) | (simp; omega))); decide) | with_reducible apply Bn.alloc | with_reducible apply Bn.drew | with_reducible apply Bn.set)))
  have HL1_W2 := Lib.hid (HL1.out.keep HK_W2.out)
  have HL2_W2 := Lib.hid (HL2.out.keep HK_W2.out)
  have HU1_W2 := Lib.hid (HU1.out.keep HK_W2.out)
  have HU2_W2 := Lib.hid (HU2.out.keep HK_W2.out)
  have HB_W2 := Lib.hid (show Below w.heap.size w W2 by rw [← hW]; (repeat' (first | with_reducible exact Below.refl _ _ | with_reducible exact HB.out | (with_reducible refine Below.alloc ?_ ?_ _; rotate_left; (focus (first | omega | (simp; done) | (simp; omega)))) | with_reducible apply Below.drew | (with_reducible refine Below.setCell ?_ ?_ _; rotate_left; (focus (first | omega | (simp; done) | (simp; omega)))))))
  have HT_W2 := Lib.hid (HT.out.below HL_W2.out)
  have HA_W2 := Lib.hid (HA.out.below HL_W2.out)
  clear HL_W2
  clear hW HK_W2
  clear hl_A f_A HX_A k_A_0 k_A_1 k_A_2 HL1 HL2 HU1 HU2 HB hN hs0
  have hN := hN_W2
  have HB := HB_W2
  have hs0 := hs0_W2
  have hl_A := hl_A_W2
  have f_A := f_A_W2
  have HX_A := HX_A_W2
  have k_A_0 := k_A_0_W2
  have k_A_1 := k_A_1_W2
  have k_A_2 := k_A_2_W2
  have hl_B := hl_B_W2
  have f_B := f_B_W2
  have HX_B := HX_B_W2
  have k_B_0 := k_B_0_W2
  have k_B_1 := k_B_1_W2
  have k_B_2 := k_B_2_W2
  have HL1 := HL1_W2
  have HL2 := HL2_W2
  have HU1 := HU1_W2
  have HU2 := HU2_W2
  clear hN_W2 HB_W2 hs0_W2 hl_A_W2 f_A_W2 HX_A_W2 k_A_0_W2 k_A_1_W2 k_A_2_W2 hl_B_W2 f_B_W2 HX_B_W2 k_B_0_W2 k_B_1_W2 k_B_2_W2 HL1_W2 HL2_W2 HU1_W2 HU2_W2
  clear HT HA
  have HT := HT_W2
  have HA := HA_W2
  clear HT_W2 HA_W2
  refine (Both_in (N := N) _ _ _ q L _ hN HA.out hL HV.out k hkn pb HPb.out).mono ?_
  rintro e wc ⟨rb, cb, rb2, cb2, rfl, hn, hn', hb⟩
  have HT_wc := Lib.hid (HT.out.below hb)
  have HA_wc := Lib.hid (HA.out.below hb)
  have hN_wc : N ≤ wc.heap.size := Nat.le_trans hN hb.size
  have hs_wc : W2.heap.size ≤ wc.heap.size := hb.size
  have hs0_wc : w.heap.size ≤ wc.heap.size := Nat.le_trans hs0 hb.size
  have hl_A_wc : wa.heap.size < wc.heap.size := Nat.lt_of_lt_of_le hl_A hb.size
  have k_A_0_wc : wc.cell? ⟨wa.heap.size, 0, none⟩ = some (.bool (decide ((pl).num < 0))) := (hb.cell (p := ⟨wa.heap.size, 0, none⟩) hl_A).trans k_A_0
  have k_A_1_wc : wc.cell? ⟨wa.heap.size, 1, none⟩ = some (.slice rl (nlen (pl).num.natAbs) cl) := (hb.cell (p := ⟨wa.heap.size, 1, none⟩) hl_A).trans k_A_1
  have k_A_2_wc : wc.cell? ⟨wa.heap.size, 2, none⟩ = some (.slice rl2 (nlen (pl).den) cl2) := (hb.cell (p := ⟨wa.heap.size, 2, none⟩) hl_A).trans k_A_2
  have f_A_wc : ∀ o, wc.frozen? ⟨wa.heap.size, o, none⟩ = false := fun o => (hb.frozen (p := ⟨wa.heap.size, o, none⟩) hl_A).trans (f_A o)
  have HX_A_wc := Lib.hid (HX_A.out.below hb)
  have hl_B_wc : wb.heap.size < wc.heap.size := Nat.lt_of_lt_of_le hl_B hb.size
  have k_B_0_wc : wc.cell? ⟨wb.heap.size, 0, none⟩ = some (.bool (decide ((pu).num < 0))) := (hb.cell (p := ⟨wb.heap.size, 0, none⟩) hl_B).trans k_B_0
  have k_B_1_wc : wc.cell? ⟨wb.heap.size, 1, none⟩ = some (.slice ru (nlen (pu).num.natAbs) cu) := (hb.cell (p := ⟨wb.heap.size, 1, none⟩) hl_B).trans k_B_1
  have k_B_2_wc : wc.cell? ⟨wb.heap.size, 2, none⟩ = some (.slice ru2 (nlen (pu).den) cu2) := (hb.cell (p := ⟨wb.heap.size, 2, none⟩) hl_B).trans k_B_2
  have f_B_wc : ∀ o, wc.frozen? ⟨wb.heap.size, o, none⟩ = false := fun o => (hb.frozen (p := ⟨wb.heap.size, o, none⟩) hl_B).trans (f_B o)
  have HX_B_wc := Lib.hid (HX_B.out.below hb)
  have HL1_wc := Lib.hid (HL1.out.below hb)
  have HL2_wc := Lib.hid (HL2.out.below hb)
  have HU1_wc := Lib.hid (HU1.out.below hb)
  have HU2_wc := Lib.hid (HU2.out.below hb)
  have HB_wc := Lib.hid (HB.out.trans (hb.mono hs0))
  clear hb
  clear hl_A f_A HX_A k_A_0 k_A_1 k_A_2 hl_B f_B HX_B k_B_0 k_B_1 k_B_2 HL1 HL2 HU1 HU2 HB hN hs0
  have hN := hN_wc
  have HB := HB_wc
  have hs0 := hs0_wc
  have hl_A := hl_A_wc
  have f_A := f_A_wc
  have HX_A := HX_A_wc
  have k_A_0 := k_A_0_wc
  have k_A_1 := k_A_1_wc
  have k_A_2 := k_A_2_wc
  have hl_B := hl_B_wc
  have f_B := f_B_wc
  have HX_B := HX_B_wc
  have k_B_0 := k_B_0_wc
  have k_B_1 := k_B_1_wc
  have k_B_2 := k_B_2_wc
  have HL1 := HL1_wc
  have HL2 := HL2_wc
  have HU1 := HU1_wc
  have HU2 := HU2_wc
  clear hN_wc HB_wc hs0_wc hl_A_wc f_A_wc HX_A_wc k_A_0_wc k_A_1_wc k_A_2_wc hl_B_wc f_B_wc HX_B_wc k_B_0_wc k_B_1_wc k_B_2_wc HL1_wc HL2_wc HU1_wc HU2_wc
  clear HT HA
  have HT := HT_wc
  have HA := HA_wc
  clear HT_wc HA_wc
  have HC1 := Lib.hid hn
  clear hn
  have HC2 := Lib.hid hn'
  clear hn'
  go_wp2_with fail
  refine calls_name fun W3 hW => ?_
  have HL_W3 := Lib.hid (show Below wc.heap.size wc W3 by rw [← hW]; (repeat' (first | with_reducible exact Below.refl _ _ | (with_reducible refine Below.alloc ?_ ?_ _; rotate_left; (focus (first | omega | (simp; done) | (simp; omega)))) | with_reducible apply Below.drew | (with_reducible refine Below.setCell ?_ ?_ _; rotate_left; (focus (first | omega | (simp; done) | (simp; omega)))))))
  have hN_W3 : N ≤ W3.heap.size := by rw [← hW]; (first | omega | (simp; done) | (simp; omega))
  have hs_W3 : wc.heap.size ≤ W3.heap.size := by rw [← hW]; (first | omega | (simp; done) | (simp; omega))
  have hs0_W3 : w.heap.size ≤ W3.heap.size := by rw [← hW]; (first | omega | (simp; done) | (simp; omega))
  have hd_A_C : wa.heap.size < wc.heap.size := by omega
  have hd_B_C : wb.heap.size < wc.heap.size := by omega
  have hl_A_W3 : wa.heap.size < W3.heap.size := by rw [← hW]; (first | omega | (simp; done) | (simp; omega))
  have k_A_0_W3 : W3.cell? ⟨wa.heap.size, 0, none⟩ = some (.bool (decide ((pl).num < 0))) := (HL_W3.out.cell (p := ⟨wa.heap.size, 0, none⟩) hl_A).trans k_A_0
  have k_A_1_W3 : W3.cell? ⟨wa.heap.size, 1, none⟩ = some (.slice rl (nlen (pl).num.natAbs) cl) := (HL_W3.out.cell (p := ⟨wa.heap.size, 1, none⟩) hl_A).trans k_A_1
  have k_A_2_W3 : W3.cell? ⟨wa.heap.size, 2, none⟩ = some (.slice rl2 (nlen (pl).den) cl2) := (HL_W3.out.cell (p := ⟨wa.heap.size, 2, none⟩) hl_A).trans k_A_2
  have f_A_W3 : ∀ o, W3.frozen? ⟨wa.heap.size, o, none⟩ = false := fun o => (HL_W3.out.frozen (p := ⟨wa.heap.size, o, none⟩) hl_A).trans (f_A o)
  have HX_A_W3 := Lib.hid (show Bn W3 (wa.heap.size) by rw [← hW]; (repeat' (first | with_reducible exact Kp.refl _ _ | with_reducible exact HX_A.out | with_reducible exact HX_B.out | with_reducible apply Kp.alloc | with_reducible apply Kp.drew | (with_reducible refine Kp.put ?_ ?_ ?_ _; rotate_left; (focus (first | omega | (simp; done) | (simp; omega))); rotate_left) | (with_reducible refine Bn.new _ _ _ _ ?_ ?_; (focus (first | omega | (simp; done) | (simp; omega))); decide) | with_reducible apply Bn.alloc | with_reducible apply Bn.drew | with_reducible apply Bn.set)))
  have hl_B_W3 : wb.heap.size < W3.heap.size := by rw [← hW]; (first | omega | (simp; done) | (simp; omega))
  have k_B_0_W3 : W3.cell? ⟨wb.heap.size, 0, none⟩ = some (.bool (decide ((pu).num < 0))) := (HL_W3.out.cell (p := ⟨wb.heap.size, 0, none⟩) hl_B).trans k_B_0
  have k_B_1_W3 : W3.cell? ⟨wb.heap.size, 1, none⟩ = some (.slice ru (nlen (pu).num.natAbs) cu) := (HL_W3.out.cell (p := ⟨wb.heap.size, 1, none⟩) hl_B).trans k_B_1
  have k_B_2_W3 : W3.cell? ⟨wb.heap.size, 2, none⟩ = some (.slice ru2 (nlen (pu).den) cu2) := (HL_W3.out.cell (p := ⟨wb.heap.size, 2, none⟩) hl_B).trans k_B_2
  have f_B_W3 : ∀ o, W3.frozen? ⟨wb.heap.size, o, none⟩ = false := fun o => (HL_W3.out.frozen (p := ⟨wb.heap.size, o, none⟩) hl_B).trans (f_B o)
  have HX_B_W3 := Lib.hid (show Bn W3 (wb.heap.size) by rw [← hW]; (repeat' (first | with_reducible exact Kp.refl _ _ | with_reducible exact HX_A.out | with_reducible exact HX_B.out | with_reducible apply Kp.alloc | with_reducible apply Kp.drew | (with_reducible refine Kp.put ?_ ?_ ?_ _; rotate_left; (focus (first | omega | (simp; done) | (simp; omega))); rotate_left) | (with_reducible refine Bn.new _ _ _ _ ?_ ?_; (focus (first | omega | (simp; done) | (simp; omega))); decide) | with_reducible apply Bn.alloc | with_reducible apply Bn.drew | with_reducible apply Bn.set)))
  have hl_C_W3 : wc.heap.size < W3.heap.size := by rw [← hW]; (first | omega | (simp; done) | (simp; omega))
  have k_C_0_W3 : W3.cell? ⟨wc.heap.size, 0, none⟩ = some (.bool (decide ((pb).num < 0))) := by rw [← hW]; (first | (go_simp; done) | (simp; done) | (simp [go_sem]; done) | (simp [go_sem, k_A_0, k_A_1, k_A_2, k_B_0, k_B_1, k_B_2, f_A, f_B, hl_A, hl_B]; done))
  have k_C_1_W3 : W3.cell? ⟨wc.heap.size, 1, none⟩ = some (.slice rb (nlen (pb).num.natAbs) cb) := by rw [← hW]; (first | (go_simp; done) | (simp; done) | (simp [go_sem]; done) | (simp [go_sem, k_A_0, k_A_1, k_A_2, k_B_0, k_B_1, k_B_2, f_A, f_B, hl_A, hl_B]; done))
  have k_C_2_W3 : W3.cell? ⟨wc.heap.size, 2, none⟩ = some (.slice rb2 (nlen (pb).den) cb2) := by rw [← hW]; (first | (go_simp; done) | (simp; done) | (simp [go_sem]; done) | (simp [go_sem, k_A_0, k_A_1, k_A_2, k_B_0, k_B_1, k_B_2, f_A, f_B, hl_A, hl_B]; done))
  have f_C_W3 : ∀ o, W3.frozen? ⟨wc.heap.size, o, none⟩ = false := by intro o; rw [← hW]; (first | (go_simp; done) | (simp; done) | (simp [go_sem]; done) | (simp [go_sem, k_A_0, k_A_1, k_A_2, k_B_0, k_B_1, k_B_2, f_A, f_B, hl_A, hl_B]; done))
  have HX_C_W3 := Lib.hid (show Bn W3 (wc.heap.size) by rw [← hW]; (repeat' (first | with_reducible exact Kp.refl _ _ | with_reducible exact HX_A.out | with_reducible exact HX_B.out | with_reducible apply Kp.alloc | with_reducible apply Kp.drew | (with_reducible refine Kp.put ?_ ?_ ?_ _; rotate_left; (focus (first | omega | (simp; done) | (simp; omega))); rotate_left) | (with_reducible refine Bn.new _ _ _ _ ?_ ?_; (focus (first | omega | (simp; done) | (simp; omega))); decide) | with_reducible apply Bn.alloc | with_reducible apply Bn.drew | with_reducible apply Bn.set)))
  have HK_W3 := Lib.hid (show Kp N wc W3 by rw [← hW]; (repeat' (first | with_reducible exact Kp.refl _ _ | with_reducible exact HX_A.out | with_reducible exact HX_B.out | with_reducible apply Kp.alloc | with_reducible apply Kp.drew | (with_reducible refine Kp.put ?_ ?_ ?_ _; rotate_left; (focus (first | omega | (simp; done) | (simp; omega))); rotate_left) | (with_reducible refine Bn.new _ _ _ _ ?_ ?_; (focus (first | omega | (simp; done) | (simp; omega))); decide) | with_reducible apply Bn.alloc | with_reducible apply Bn.drew | with_reducible apply Bn.set)))
  have HL1_W3 := Lib.hid (HL1.out.keep HK_W3.out)
  have HL2_W3 := Lib.hid (HL2.out.keep HK_W3.out)
  have HU1_W3 := Lib.hid (HU1.out.keep HK_W3.out)
  have HU2_W3 := Lib.hid (HU2.out.keep HK_W3.out)
  have HC1_W3 := Lib.hid (HC1.out.keep HK_W3.out)
  have HC2_W3 := Lib.hid (HC2.out.keep HK_W3.out)
  have HB_W3 := Lib.hid (show Below w.heap.size w W3 by rw [← hW]; (repeat' (first | with_reducible exact Below.refl _ _ | with_reducible exact HB.out | (with_reducible refine Below.alloc ?_ ?_ _; rotate_left; (focus (first | omega | (simp; done) | (simp; omega)))) | with_reducible apply Below.drew | (with_reducible refine Below.setCell ?_ ?_ _; rotate_left; (focus (first | omega | (simp; done) | (simp; omega)))))))
  have HT_W3 := Lib.hid (HT.out.below HL_W3.out)
  have HA_W3 := Lib.hid (HA.out.below HL_W3.out)
  clear HL_W3
  clear hW HK_W3
  clear hl_A f_A HX_A k_A_0 k_A_1 k_A_2 hl_B f_B HX_B k_B_0 k_B_1 k_B_2 HL1 HL2 HU1 HU2 HC1 HC2 HB hN hs0
  have hN := hN_W3
  have HB := HB_W3
  have hs0 := hs0_W3
  have hl_A := hl_A_W3
  have f_A := f_A_W3
  have HX_A := HX_A_W3
  have k_A_0 := k_A_0_W3
  have k_A_1 := k_A_1_W3
  have k_A_2 := k_A_2_W3
  have hl_B := hl_B_W3
  have f_B := f_B_W3
  have HX_B := HX_B_W3
  have k_B_0 := k_B_0_W3
  have k_B_1 := k_B_1_W3
  have k_B_2 := k_B_2_W3
  have hl_C := hl_C_W3
  have f_C := f_C_W3
  have HX_C := HX_C_W3
  have k_C_0 := k_C_0_W3
  have k_C_1 := k_C_1_W3
  have k_C_2 := k_C_2_W3
  have HL1 := HL1_W3
  have HL2 := HL2_W3
  have HU1 := HU1_W3
  have HU2 := HU2_W3
  have HC1 := HC1_W3
  have HC2 := HC2_W3
  clear hN_W3 HB_W3 hs0_W3 hl_A_W3 f_A_W3 HX_A_W3 k_A_0_W3 k_A_1_W3 k_A_2_W3 hl_B_W3 f_B_W3 HX_B_W3 k_B_0_W3 k_B_1_W3 k_B_2_W3 hl_C_W3 f_C_W3 HX_C_W3 k_C_0_W3 k_C_1_W3 k_C_2_W3 HL1_W3 HL2_W3 HU1_W3 HU2_W3 HC1_W3 HC2_W3
  clear HT HA
  have HT := HT_W3
  have HA := HA_W3
  clear HT_W3 HA_W3
  refine (radd_any (N := N) _ _ _ _ _ _ _ _ _ _ _ _ _ _ (L * 125 + 9) (L * 125 + 9) pl pu _ hN (Rt.of_norm HL1.out HL2.out _ HZl.out) (Rt.of_norm HU1.out HU2.out _ HZu.out) (by omega) (by omega) po HSum.out).mono ?_
  rintro e wd ⟨rs, cs, rs2, cs2, rfl, hn, hn', hb⟩
  have HT_wd := Lib.hid (HT.out.below hb)
  have HA_wd := Lib.hid (HA.out.below hb)
  have hN_wd : N ≤ wd.heap.size := Nat.le_trans hN hb.size
  have hs_wd : W3.heap.size ≤ wd.heap.size := hb.size
  have hs0_wd : w.heap.size ≤ wd.heap.size := Nat.le_trans hs0 hb.size
  have hl_A_wd : wa.heap.size < wd.heap.size := Nat.lt_of_lt_of_le hl_A hb.size
  have k_A_0_wd : wd.cell? ⟨wa.heap.size, 0, none⟩ = some (.bool (decide ((pl).num < 0))) := (hb.cell (p := ⟨wa.heap.size, 0, none⟩) hl_A).trans k_A_0
  have k_A_1_wd : wd.cell? ⟨wa.heap.size, 1, none⟩ = some (.slice rl (nlen (pl).num.natAbs) cl) := (hb.cell (p := ⟨wa.heap.size, 1, none⟩) hl_A).trans k_A_1
  have k_A_2_wd : wd.cell? ⟨wa.heap.size, 2, none⟩ = some (.slice rl2 (nlen (pl).den) cl2) := (hb.cell (p := ⟨wa.heap.size, 2, none⟩) hl_A).trans k_A_2
  have f_A_wd : ∀ o, wd.frozen? ⟨wa.heap.size, o, none⟩ = false := fun o => (hb.frozen (p := ⟨wa.heap.size, o, none⟩) hl_A).trans (f_A o)
  have HX_A_wd := Lib.hid (HX_A.out.below hb)
  have hl_B_wd : wb.heap.size < wd.heap.size := Nat.lt_of_lt_of_le hl_B hb.size
  have k_B_0_wd : wd.cell? ⟨wb.heap.size, 0, none⟩ = some (.bool (decide ((pu).num < 0))) := (hb.cell (p := ⟨wb.heap.size, 0, none⟩) hl_B).trans k_B_0
  have k_B_1_wd : wd.cell? ⟨wb.heap.size, 1, none⟩ = some (.slice ru (nlen (pu).num.natAbs) cu) := (hb.cell (p := ⟨wb.heap.size, 1, none⟩) hl_B).trans k_B_1
  have k_B_2_wd : wd.cell? ⟨wb.heap.size, 2, none⟩ = some (.slice ru2 (nlen (pu).den) cu2) := (hb.cell (p := ⟨wb.heap.size, 2, none⟩) hl_B).trans k_B_2
  have f_B_wd : ∀ o, wd.frozen? ⟨wb.heap.size, o, none⟩ = false := fun o => (hb.frozen (p := ⟨wb.heap.size, o, none⟩) hl_B).trans (f_B o)
  have HX_B_wd := Lib.hid (HX_B.out.below hb)
  have hl_C_wd : wc.heap.size < wd.heap.size := Nat.lt_of_lt_of_le hl_C hb.size
  have k_C_0_wd : wd.cell? ⟨wc.heap.size, 0, none⟩ = some (.bool (decide ((pb).num < 0))) := (hb.cell (p := ⟨wc.heap.size, 0, none⟩) hl_C).trans k_C_0
  have k_C_1_wd : wd.cell? ⟨wc.heap.size, 1, none⟩ = some (.slice rb (nlen (pb).num.natAbs) cb) := (hb.cell (p := ⟨wc.heap.size, 1, none⟩) hl_C).trans k_C_1
  have k_C_2_wd : wd.cell? ⟨wc.heap.size, 2, none⟩ = some (.slice rb2 (nlen (pb).den) cb2) := (hb.cell (p := ⟨wc.heap.size, 2, none⟩) hl_C).trans k_C_2
  have f_C_wd : ∀ o, wd.frozen? ⟨wc.heap.size, o, none⟩ = false := fun o => (hb.frozen (p := ⟨wc.heap.size, o, none⟩) hl_C).trans (f_C o)
  have HX_C_wd := Lib.hid (HX_C.out.below hb)
  have HL1_wd := Lib.hid (HL1.out.below hb)
  have HL2_wd := Lib.hid (HL2.out.below hb)
  have HU1_wd := Lib.hid (HU1.out.below hb)
  have HU2_wd := Lib.hid (HU2.out.below hb)
  have HC1_wd := Lib.hid (HC1.out.below hb)
  have HC2_wd := Lib.hid (HC2.out.below hb)
  have HB_wd := Lib.hid (HB.out.trans (hb.mono hs0))
  clear hb
  clear hl_A f_A HX_A k_A_0 k_A_1 k_A_2 hl_B f_B HX_B k_B_0 k_B_1 k_B_2 hl_C f_C HX_C k_C_0 k_C_1 k_C_2 HL1 HL2 HU1 HU2 HC1 HC2 HB hN hs0
  have hN := hN_wd
  have HB := HB_wd
  have hs0 := hs0_wd
  have hl_A := hl_A_wd
  have f_A := f_A_wd
  have HX_A := HX_A_wd
  have k_A_0 := k_A_0_wd
  have k_A_1 := k_A_1_wd
  have k_A_2 := k_A_2_wd
  have hl_B := hl_B_wd
  have f_B := f_B_wd
  have HX_B := HX_B_wd
  have k_B_0 := k_B_0_wd
  have k_B_1 := k_B_1_wd
  have k_B_2 := k_B_2_wd
  have hl_C := hl_C_wd
  have f_C := f_C_wd
  have HX_C := HX_C_wd
  have k_C_0 := k_C_0_wd
  have k_C_1 := k_C_1_wd
  have k_C_2 := k_C_2_wd
  have HL1 := HL1_wd
  have HL2 := HL2_wd
  have HU1 := HU1_wd
  have HU2 := HU2_wd
  have HC1 := HC1_wd
  have HC2 := HC2_wd
  clear hN_wd HB_wd hs0_wd hl_A_wd f_A_wd HX_A_wd k_A_0_wd k_A_1_wd k_A_2_wd hl_B_wd f_B_wd HX_B_wd k_B_0_wd k_B_1_wd k_B_2_wd hl_C_wd f_C_wd HX_C_wd k_C_0_wd k_C_1_wd k_C_2_wd HL1_wd HL2_wd HU1_wd HU2_wd HC1_wd HC2_wd
  clear HT HA
  have HT := HT_wd
  have HA := HA_wd
  clear HT_wd HA_wd
  have HS1 := Lib.hid hn
  clear hn
  have HS2 := Lib.hid hn'
  clear hn'
  go_wp2_with fail
  refine (part_any (N := N) 1 1 _ hN (by decide) (by decide) po HOne.out).mono ?_
  rintro e we ⟨ax, dx, rfl, hn, hb⟩
  have HT_we := Lib.hid (HT.out.below hb)
  have HA_we := Lib.hid (HA.out.below hb)
  have hN_we : N ≤ we.heap.size := Nat.le_trans hN hb.size
  have hs_we : wd.heap.size ≤ we.heap.size := hb.size
  have hs0_we : w.heap.size ≤ we.heap.size := Nat.le_trans hs0 hb.size
  have hl_A_we : wa.heap.size < we.heap.size := Nat.lt_of_lt_of_le hl_A hb.size
  have k_A_0_we : we.cell? ⟨wa.heap.size, 0, none⟩ = some (.bool (decide ((pl).num < 0))) := (hb.cell (p := ⟨wa.heap.size, 0, none⟩) hl_A).trans k_A_0
  have k_A_1_we : we.cell? ⟨wa.heap.size, 1, none⟩ = some (.slice rl (nlen (pl).num.natAbs) cl) := (hb.cell (p := ⟨wa.heap.size, 1, none⟩) hl_A).trans k_A_1
  have k_A_2_we : we.cell? ⟨wa.heap.size, 2, none⟩ = some (.slice rl2 (nlen (pl).den) cl2) := (hb.cell (p := ⟨wa.heap.size, 2, none⟩) hl_A).trans k_A_2
  have f_A_we : ∀ o, we.frozen? ⟨wa.heap.size, o, none⟩ = false := fun o => (hb.frozen (p := ⟨wa.heap.size, o, none⟩) hl_A).trans (f_A o)
  have HX_A_we := Lib.hid (HX_A.out.below hb)
  have hl_B_we : wb.heap.size < we.heap.size := Nat.lt_of_lt_of_le hl_B hb.size
  have k_B_0_we : we.cell? ⟨wb.heap.size, 0, none⟩ = some (.bool (decide ((pu).num < 0))) := (hb.cell (p := ⟨wb.heap.size, 0, none⟩) hl_B).trans k_B_0
  have k_B_1_we : we.cell? ⟨wb.heap.size, 1, none⟩ = some (.slice ru (nlen (pu).num.natAbs) cu) := (hb.cell (p := ⟨wb.heap.size, 1, none⟩) hl_B).trans k_B_1
  have k_B_2_we : we.cell? ⟨wb.heap.size, 2, none⟩ = some (.slice ru2 (nlen (pu).den) cu2) := (hb.cell (p := ⟨wb.heap.size, 2, none⟩) hl_B).trans k_B_2
  have f_B_we : ∀ o, we.frozen? ⟨wb.heap.size, o, none⟩ = false := fun o => (hb.frozen (p := ⟨wb.heap.size, o, none⟩) hl_B).trans (f_B o)
  have HX_B_we := Lib.hid (HX_B.out.below hb)
  have hl_C_we : wc.heap.size < we.heap.size := Nat.lt_of_lt_of_le hl_C hb.size
  have k_C_0_we : we.cell? ⟨wc.heap.size, 0, none⟩ = some (.bool (decide ((pb).num < 0))) := (hb.cell (p := ⟨wc.heap.size, 0, none⟩) hl_C).trans k_C_0
  have k_C_1_we : we.cell? ⟨wc.heap.size, 1, none⟩ = some (.slice rb (nlen (pb).num.natAbs) cb) := (hb.cell (p := ⟨wc.heap.size, 1, none⟩) hl_C).trans k_C_1
  have k_C_2_we : we.cell? ⟨wc.heap.size, 2, none⟩ = some (.slice rb2 (nlen (pb).den) cb2) := (hb.cell (p := ⟨wc.heap.size, 2, none⟩) hl_C).trans k_C_2
  have f_C_we : ∀ o, we.frozen? ⟨wc.heap.size, o, none⟩ = false := fun o => (hb.frozen (p := ⟨wc.heap.size, o, none⟩) hl_C).trans (f_C o)
  have HX_C_we := Lib.hid (HX_C.out.below hb)
  have HL1_we := Lib.hid (HL1.out.below hb)
  have HL2_we := Lib.hid (HL2.out.below hb)
  have HU1_we := Lib.hid (HU1.out.below hb)
  have HU2_we := Lib.hid (HU2.out.below hb)
  have HC1_we := Lib.hid (HC1.out.below hb)
  have HC2_we := Lib.hid (HC2.out.below hb)
  have HS1_we := Lib.hid (HS1.out.below hb)
  have HS2_we := Lib.hid (HS2.out.below hb)
  have HB_we := Lib.hid (HB.out.trans (hb.mono hs0))
  clear hb
  clear hl_A f_A HX_A k_A_0 k_A_1 k_A_2 hl_B f_B HX_B k_B_0 k_B_1 k_B_2 hl_C f_C HX_C k_C_0 k_C_1 k_C_2 HL1 HL2 HU1 HU2 HC1 HC2 HS1 HS2 HB hN hs0
  have hN := hN_we
  have HB := HB_we
  have hs0 := hs0_we
  have hl_A := hl_A_we
  have f_A := f_A_we
  have HX_A := HX_A_we
  have k_A_0 := k_A_0_we
  have k_A_1 := k_A_1_we
  have k_A_2 := k_A_2_we
  have hl_B := hl_B_we
  have f_B := f_B_we
  have HX_B := HX_B_we
  have k_B_0 := k_B_0_we
  have k_B_1 := k_B_1_we
  have k_B_2 := k_B_2_we
  have hl_C := hl_C_we
  have f_C := f_C_we
  have HX_C := HX_C_we
  have k_C_0 := k_C_0_we
  have k_C_1 := k_C_1_we
  have k_C_2 := k_C_2_we
  have HL1 := HL1_we
  have HL2 := HL2_we
  have HU1 := HU1_we
  have HU2 := HU2_we
  have HC1 := HC1_we
  have HC2 := HC2_we
  have HS1 := HS1_we
  have HS2 := HS2_we
  clear hN_we HB_we hs0_we hl_A_we f_A_we HX_A_we k_A_0_we k_A_1_we k_A_2_we hl_B_we f_B_we HX_B_we k_B_0_we k_B_1_we k_B_2_we hl_C_we f_C_we HX_C_we k_C_0_we k_C_1_we k_C_2_we HL1_we HL2_we HU1_we HU2_we HC1_we HC2_we HS1_we HS2_we
  clear HT HA
  have HT := HT_we
  have HA := HA_we
  clear HT_we HA_we
  have HQ1 := Lib.hid hn
  clear hn
  go_wp2_with fail
  refine (rcmp_any (N := N) _ _ _ _ _ _ _ _ _ _ _ _ _ _ 1 1 po po _ hN (Rt.of_norm HS1.out HS2.out _ HZo.out) HQ1.out (by omega) (by omega)).mono ?_
  rw [cmpQ_self]
  rintro e wf ⟨rfl, hb⟩
  have HT_wf := Lib.hid (HT.out.below hb)
  have HA_wf := Lib.hid (HA.out.below hb)
  have hN_wf : N ≤ wf.heap.size := Nat.le_trans hN hb.size
  have hs_wf : we.heap.size ≤ wf.heap.size := hb.size
  have hs0_wf : w.heap.size ≤ wf.heap.size := Nat.le_trans hs0 hb.size
  have hl_A_wf : wa.heap.size < wf.heap.size := Nat.lt_of_lt_of_le hl_A hb.size
  have k_A_0_wf : wf.cell? ⟨wa.heap.size, 0, none⟩ = some (.bool (decide ((pl).num < 0))) := (hb.cell (p := ⟨wa.heap.size, 0, none⟩) hl_A).trans k_A_0
  have k_A_1_wf : wf.cell? ⟨wa.heap.size, 1, none⟩ = some (.slice rl (nlen (pl).num.natAbs) cl) := (hb.cell (p := ⟨wa.heap.size, 1, none⟩) hl_A).trans k_A_1
  have k_A_2_wf : wf.cell? ⟨wa.heap.size, 2, none⟩ = some (.slice rl2 (nlen (pl).den) cl2) := (hb.cell (p := ⟨wa.heap.size, 2, none⟩) hl_A).trans k_A_2
  have f_A_wf : ∀ o, wf.frozen? ⟨wa.heap.size, o, none⟩ = false := fun o => (hb.frozen (p := ⟨wa.heap.size, o, none⟩) hl_A).trans (f_A o)
  have HX_A_wf := Lib.hid (HX_A.out.below hb)
  have hl_B_wf : wb.heap.size < wf.heap.size := Nat.lt_of_lt_of_le hl_B hb.size
  have k_B_0_wf : wf.cell? ⟨wb.heap.size, 0, none⟩ = some (.bool (decide ((pu).num < 0))) := (hb.cell (p := ⟨wb.heap.size, 0, none⟩) hl_B).trans k_B_0
  have k_B_1_wf : wf.cell? ⟨wb.heap.size, 1, none⟩ = some (.slice ru (nlen (pu).num.natAbs) cu) := (hb.cell (p := ⟨wb.heap.size, 1, none⟩) hl_B).trans k_B_1
  have k_B_2_wf : wf.cell? ⟨wb.heap.size, 2, none⟩ = some (.slice ru2 (nlen (pu).den) cu2) := (hb.cell (p := ⟨wb.heap.size, 2, none⟩) hl_B).trans k_B_2
  have f_B_wf : ∀ o, wf.frozen? ⟨wb.heap.size, o, none⟩ = false := fun o => (hb.frozen (p := ⟨wb.heap.size, o, none⟩) hl_B).trans (f_B o)
  have HX_B_wf := Lib.hid (HX_B.out.below hb)
  have hl_C_wf : wc.heap.size < wf.heap.size := Nat.lt_of_lt_of_le hl_C hb.size
  have k_C_0_wf : wf.cell? ⟨wc.heap.size, 0, none⟩ = some (.bool (decide ((pb).num < 0))) := (hb.cell (p := ⟨wc.heap.size, 0, none⟩) hl_C).trans k_C_0
  have k_C_1_wf : wf.cell? ⟨wc.heap.size, 1, none⟩ = some (.slice rb (nlen (pb).num.natAbs) cb) := (hb.cell (p := ⟨wc.heap.size, 1, none⟩) hl_C).trans k_C_1
  have k_C_2_wf : wf.cell? ⟨wc.heap.size, 2, none⟩ = some (.slice rb2 (nlen (pb).den) cb2) := (hb.cell (p := ⟨wc.heap.size, 2, none⟩) hl_C).trans k_C_2
  have f_C_wf : ∀ o, wf.frozen? ⟨wc.heap.size, o, none⟩ = false := fun o => (hb.frozen (p := ⟨wc.heap.size, o, none⟩) hl_C).trans (f_C o)
  have HX_C_wf := Lib.hid (HX_C.out.below hb)
  have HL1_wf := Lib.hid (HL1.out.below hb)
  have HL2_wf := Lib.hid (HL2.out.below hb)
  have HU1_wf := Lib.hid (HU1.out.below hb)
  have HU2_wf := Lib.hid (HU2.out.below hb)
  have HC1_wf := Lib.hid (HC1.out.below hb)
  have HC2_wf := Lib.hid (HC2.out.below hb)
  have HS1_wf := Lib.hid (HS1.out.below hb)
  have HS2_wf := Lib.hid (HS2.out.below hb)
  have HQ1_wf := Lib.hid (HQ1.out.below hb)
  have HB_wf := Lib.hid (HB.out.trans (hb.mono hs0))
  clear hb
  clear hl_A f_A HX_A k_A_0 k_A_1 k_A_2 hl_B f_B HX_B k_B_0 k_B_1 k_B_2 hl_C f_C HX_C k_C_0 k_C_1 k_C_2 HL1 HL2 HU1 HU2 HC1 HC2 HS1 HS2 HQ1 HB hN hs0
  have hN := hN_wf
  have HB := HB_wf
  have hs0 := hs0_wf
  have hl_A := hl_A_wf
  have f_A := f_A_wf
  have HX_A := HX_A_wf
  have k_A_0 := k_A_0_wf
  have k_A_1 := k_A_1_wf
  have k_A_2 := k_A_2_wf
  have hl_B := hl_B_wf
  have f_B := f_B_wf
  have HX_B := HX_B_wf
  have k_B_0 := k_B_0_wf
  have k_B_1 := k_B_1_wf
  have k_B_2 := k_B_2_wf
  have hl_C := hl_C_wf
  have f_C := f_C_wf
  have HX_C := HX_C_wf
  have k_C_0 := k_C_0_wf
  have k_C_1 := k_C_1_wf
  have k_C_2 := k_C_2_wf
  have HL1 := HL1_wf
  have HL2 := HL2_wf
  have HU1 := HU1_wf
  have HU2 := HU2_wf
  have HC1 := HC1_wf
  have HC2 := HC2_wf
  have HS1 := HS1_wf
  have HS2 := HS2_wf
  have HQ1 := HQ1_wf
  clear hN_wf HB_wf hs0_wf hl_A_wf f_A_wf HX_A_wf k_A_0_wf k_A_1_wf k_A_2_wf hl_B_wf f_B_wf HX_B_wf k_B_0_wf k_B_1_wf k_B_2_wf hl_C_wf f_C_wf HX_C_wf k_C_0_wf k_C_1_wf k_C_2_wf HL1_wf HL2_wf HU1_wf HU2_wf HC1_wf HC2_wf HS1_wf HS2_wf HQ1_wf
  clear HT HA
  have HT := HT_wf
  have HA := HA_wf
  clear HT_wf HA_wf
  clear HS1
  clear HS2
  clear HQ1
  clear hl_A f_A HX_A k_A_0 k_A_1 k_A_2
  clear HL1
  clear HL2
  go_wp2_with fail
  clear hl_B f_B HX_B k_B_0 k_B_1 k_B_2 HU1 HU2
  have HBf := HB
  have hsf := hs0
  go_loopw [11, 12] (fun g i wr => ∃ j : Nat, j ≤ n ∧ i = .int .i64 j ∧ g = .bool (topB q k j) ∧ Below wf.heap.size wf wr ∧ wf.heap.size ≤ wr.heap.size) (fun _ i _ => n - (intOf i).toNat)
  case atStart => exact ⟨0, Nat.zero_le _, rfl, rfl, Below.refl _ _, Nat.le_refl _⟩
  case round =>
    obtain ⟨j, hj, rfl, rfl, hbel, hsz⟩ := hrel
    have hl_C' : wc.heap.size < wr.heap.size := Nat.lt_of_lt_of_le hl_C hbel.size
    have k_C_0' : wr.cell? ⟨wc.heap.size, 0, none⟩ = some (.bool (decide ((pb).num < 0))) := (hbel.cell (p := ⟨wc.heap.size, 0, none⟩) hl_C).trans k_C_0
    have k_C_1' : wr.cell? ⟨wc.heap.size, 1, none⟩ = some (.slice rb (nlen (pb).num.natAbs) cb) := (hbel.cell (p := ⟨wc.heap.size, 1, none⟩) hl_C).trans k_C_1
    have k_C_2' : wr.cell? ⟨wc.heap.size, 2, none⟩ = some (.slice rb2 (nlen (pb).den) cb2) := (hbel.cell (p := ⟨wc.heap.size, 2, none⟩) hl_C).trans k_C_2
    have f_C' : ∀ o, wr.frozen? ⟨wc.heap.size, o, none⟩ = false := fun o => (hbel.frozen (p := ⟨wc.heap.size, o, none⟩) hl_C).trans (f_C o)
    have HX_C' := Lib.hid (HX_C.out.below hbel)
    clear hl_C f_C HX_C k_C_0 k_C_1 k_C_2
    have hl_C := hl_C'
    have f_C := f_C'
    have HX_C := HX_C'
    have k_C_0 := k_C_0'
    have k_C_1 := k_C_1'
    have k_C_2 := k_C_2'
    clear hl_C' f_C' HX_C' k_C_0' k_C_1' k_C_2'
    have HC1r := Lib.hid (HC1.out.below hbel)
    clear HC1
    have HC1 := HC1r
    clear HC1r
    have HC2r := Lib.hid (HC2.out.below hbel)
    clear HC2
    have HC2 := HC2r
    clear HC2r
    have HTr := Lib.hid (HT.out.below hbel)
    clear HT
    have HT := HTr
    clear HTr
    have HAr := Lib.hid (HA.out.below hbel)
    clear HA
    have HA := HAr
    clear HAr
    clear HB hs0 hN
    have HB := Lib.hid hbel
    have hs0 := hsz
    have hN : N ≤ wr.heap.size := by omega
    clear hbel
    obtain ⟨b0, o0, rfl, hc⟩ := HA.out.2.2 (by omega)
    obtain ⟨s, ra, rn, rc, da, dn, dc, g0, g1, g2, hrk⟩ := hc k hkn
    have HRk := Lib.hid hrk
    have hlb : b0 < wr.heap.size := World.block_lt_of_cell? wr _ g0
    have hkx0 : (0 : Int) ≤ (k : Int) := by omega
    have hkx1 : (k : Int) < (n : Int) := by omega
    by_cases hjn : j < n
    · obtain ⟨s', ra', rn', rc', da', dn', dc', g3, g4, g5, hrj⟩ := hc j hjn
      have HRj := Lib.hid hrj
      clear hc hrj hrk
      have hix0 : (0 : Int) ≤ (j : Int) := by omega
      have hix1 : (j : Int) < (n : Int) := by omega
      obtain ⟨tj, htj⟩ : ∃ b, topB q k j = b := ⟨_, rfl⟩
      have HTJ := Lib.hid htj
      rw [htj]
      clear htj
      cases tj
      · have HE := Lib.hid (show topB q k (j + 1) = false by simp only [topB]; rw [HTJ.out]; rfl)
        clear g0 g1 g2 g3 g4 g5
        go_wp2_with fail
        go_quiet (fail)
        go_wp2_with fail
        go_roundw
        case rel => exact ⟨j + 1, by omega, by go_num, by rw [HE.out], below_drewN HB.out _, hs0⟩
        case measure => simp [intOf]; omega
      · obtain ⟨κ, hκ⟩ : ∃ κ, cmpQ (q j) (q k) = κ := ⟨_, rfl⟩
        obtain ⟨tb, htb⟩ : ∃ b, decide (q j ≤ q k) = b := ⟨_, rfl⟩
        have HE := Lib.hid (show topB q k (j + 1) = tb by simp only [topB]; rw [HTJ.out, htb]; rfl)
        have dκ : decide (κ ≤ 0) = tb := by rw [← hκ, cmp_le, htb]
        have HKA := Lib.hid hκ
        clear hκ htb
        go_wp2_with fail
        go_region_held3 (fun w' => w'.cell? ⟨b0, o0 + j * 3, none⟩ = some (.bool s') ∧ w'.cell? ⟨b0, o0 + j * 3 + 1, none⟩ = some (.slice ra' rn' rc') ∧ w'.cell? ⟨b0, o0 + j * 3 + 2, none⟩ = some (.slice da' dn' dc') ∧ w'.cell? ⟨b0, o0 + k * 3, none⟩ = some (.bool s) ∧ w'.cell? ⟨b0, o0 + k * 3 + 1, none⟩ = some (.slice ra rn rc) ∧ w'.cell? ⟨b0, o0 + k * 3 + 2, none⟩ = some (.slice da dn dc))
          (first | (go_keep; done) | ((try dsimp only); (repeat' apply And.intro) <;> (first | (go_keep; done) | (exact cell_keep_alloc_drew (by first | omega | (simp; omega)) (by first | assumption | go_simp)) | (exact cell_keep_alloc (by first | omega | (simp; omega)) (by first | assumption | go_simp)) | (rw [cell_set2 _ _ _ _ _ _ _ _ (by omega)]; assumption) | (rw [cell_set3 _ _ _ _ _ _ _ _ _ _ (by omega)]; assumption))))
          (first
            | (go_at_call 16; refine (rcmp_x (N := N) _ _ _ _ _ _ _ _ _ _ _ _ _ _ L L (q j) (q k) _ (by exact hN) (by exact HRj.out) (by exact HRk.out) (by omega) (by omega) κ HKA.out).mono ?_; rintro e wg ⟨rfl, hb⟩; replace hb : Below wr.heap.size wr wg := (by first | exact hb | exact bel_of_drew hb); have g3' : wg.cell? ⟨b0, o0 + j * 3, none⟩ = some (.bool s') := (hb.cell (p := ⟨b0, o0 + j * 3, none⟩) hlb).trans g3; have g4' : wg.cell? ⟨b0, o0 + j * 3 + 1, none⟩ = some (.slice ra' rn' rc') := (hb.cell (p := ⟨b0, o0 + j * 3 + 1, none⟩) hlb).trans g4; have g5' : wg.cell? ⟨b0, o0 + j * 3 + 2, none⟩ = some (.slice da' dn' dc') := (hb.cell (p := ⟨b0, o0 + j * 3 + 2, none⟩) hlb).trans g5; have g0' : wg.cell? ⟨b0, o0 + k * 3, none⟩ = some (.bool s) := (hb.cell (p := ⟨b0, o0 + k * 3, none⟩) hlb).trans g0; have g1' : wg.cell? ⟨b0, o0 + k * 3 + 1, none⟩ = some (.slice ra rn rc) := (hb.cell (p := ⟨b0, o0 + k * 3 + 1, none⟩) hlb).trans g1; have g2' : wg.cell? ⟨b0, o0 + k * 3 + 2, none⟩ = some (.slice da dn dc) := (hb.cell (p := ⟨b0, o0 + k * 3 + 2, none⟩) hlb).trans g2; have HT_wg := Lib.hid (HT.out.below hb); have HA_wg := Lib.hid (HA.out.below hb); have hN_wg : N ≤ wg.heap.size := Nat.le_trans hN hb.size; have hs_wg : wr.heap.size ≤ wg.heap.size := hb.size; have hs0_wg : wf.heap.size ≤ wg.heap.size := Nat.le_trans hs0 hb.size; have hl_C_wg : wc.heap.size < wg.heap.size := Nat.lt_of_lt_of_le hl_C hb.size; have k_C_0_wg : wg.cell? ⟨wc.heap.size, 0, none⟩ = some (.bool (decide ((pb).num < 0))) := (hb.cell (p := ⟨wc.heap.size, 0, none⟩) hl_C).trans k_C_0; have k_C_1_wg : wg.cell? ⟨wc.heap.size, 1, none⟩ = some (.slice rb (nlen (pb).num.natAbs) cb) := (hb.cell (p := ⟨wc.heap.size, 1, none⟩) hl_C).trans k_C_1; have k_C_2_wg : wg.cell? ⟨wc.heap.size, 2, none⟩ = some (.slice rb2 (nlen (pb).den) cb2) := (hb.cell (p := ⟨wc.heap.size, 2, none⟩) hl_C).trans k_C_2; have f_C_wg : ∀ o, wg.frozen? ⟨wc.heap.size, o, none⟩ = false := fun o => (hb.frozen (p := ⟨wc.heap.size, o, none⟩) hl_C).trans (f_C o); have HX_C_wg := Lib.hid (HX_C.out.below hb); have HC1_wg := Lib.hid (HC1.out.below hb); have HC2_wg := Lib.hid (HC2.out.below hb); have HRk_wg := Lib.hid (HRk.out.below hb); have HRj_wg := Lib.hid (HRj.out.below hb); have HB_wg := Lib.hid (HB.out.trans (hb.mono hs0)); clear hb; clear hl_C f_C HX_C k_C_0 k_C_1 k_C_2 HC1 HC2 HRk HRj HB hN hs0; have hN := hN_wg; have HB := HB_wg; have hs0 := hs0_wg; have hl_C := hl_C_wg; have f_C := f_C_wg; have HX_C := HX_C_wg; have k_C_0 := k_C_0_wg; have k_C_1 := k_C_1_wg; have k_C_2 := k_C_2_wg; have HC1 := HC1_wg; have HC2 := HC2_wg; have HRk := HRk_wg; have HRj := HRj_wg; clear hN_wg HB_wg hs0_wg hl_C_wg f_C_wg HX_C_wg k_C_0_wg k_C_1_wg k_C_2_wg HC1_wg HC2_wg HRk_wg HRj_wg; clear HT HA; have HT := HT_wg; have HA := HA_wg; clear HT_wg HA_wg; skip))
        go_wp2_with fail
        go_roundw
        case rel => exact ⟨j + 1, by omega, by go_num, by rw [HE.out], HB.out, hs0⟩
        case measure => simp [intOf]; omega
    · obtain rfl : j = n := by omega
      clear hc hrk
      obtain ⟨κ, hκ⟩ : ∃ κ, cmpQ pb po = κ := ⟨_, rfl⟩
      have HKA := Lib.hid hκ
      have d3 : decide (κ ≤ 0) = true := by rw [← hκ, HPo.out]; exact cmp_lt_one pb HLe.out
      obtain ⟨κ2, hκ2⟩ : ∃ κ2, cmpQ pb (q k) = κ2 := ⟨_, rfl⟩
      have HKB := Lib.hid hκ2
      have d4 : decide (0 ≤ κ2) = true := by rw [← hκ2]; exact cmp_geq pb (q k) HGe.out
      obtain ⟨tj, htj⟩ : ∃ b, topB q k j = b := ⟨_, rfl⟩
      have HD5 := Lib.hid (show tj = true → (κ == 0) = true from fun e => by rw [← hκ, HPo.out]; exact cmp_beq_one pb (HTop.out (topB_true (htj.trans e))))
      rw [htj]
      clear htj hκ hκ2
      go_wp2_with fail
      refine region_name fun W9 hW => ?_
      have HL_W9 := Lib.hid (show Below wr.heap.size wr W9 by rw [← hW]; (repeat' (first | with_reducible exact Below.refl _ _ | (with_reducible refine Below.alloc ?_ ?_ _; rotate_left; (focus (first | omega | (simp; done) | (simp; omega)))) | with_reducible apply Below.drew | (with_reducible refine Below.setCell ?_ ?_ _; rotate_left; (focus (first | omega | (simp; done) | (simp; omega)))))))
      have hN_W9 : N ≤ W9.heap.size := by rw [← hW]; (first | omega | (simp; done) | (simp; omega))
      have hs_W9 : wr.heap.size ≤ W9.heap.size := by rw [← hW]; (first | omega | (simp; done) | (simp; omega))
      have hs0_W9 : wf.heap.size ≤ W9.heap.size := by rw [← hW]; (first | omega | (simp; done) | (simp; omega))
      have hl_C_W9 : wc.heap.size < W9.heap.size := by rw [← hW]; (first | omega | (simp; done) | (simp; omega))
      have k_C_0_W9 : W9.cell? ⟨wc.heap.size, 0, none⟩ = some (.bool (decide ((pb).num < 0))) := (HL_W9.out.cell (p := ⟨wc.heap.size, 0, none⟩) hl_C).trans k_C_0
      have k_C_1_W9 : W9.cell? ⟨wc.heap.size, 1, none⟩ = some (.slice rb (nlen (pb).num.natAbs) cb) := (HL_W9.out.cell (p := ⟨wc.heap.size, 1, none⟩) hl_C).trans k_C_1
      have k_C_2_W9 : W9.cell? ⟨wc.heap.size, 2, none⟩ = some (.slice rb2 (nlen (pb).den) cb2) := (HL_W9.out.cell (p := ⟨wc.heap.size, 2, none⟩) hl_C).trans k_C_2
      have f_C_W9 : ∀ o, W9.frozen? ⟨wc.heap.size, o, none⟩ = false := fun o => (HL_W9.out.frozen (p := ⟨wc.heap.size, o, none⟩) hl_C).trans (f_C o)
      have HX_C_W9 := Lib.hid (show Bn W9 (wc.heap.size) by rw [← hW]; (repeat' (first | with_reducible exact Kp.refl _ _ | with_reducible exact HX_C.out | with_reducible apply Kp.alloc | with_reducible apply Kp.drew | (with_reducible refine Kp.put ?_ ?_ ?_ _; rotate_left; (focus (first | omega | (simp; done) | (simp; omega))); rotate_left) | (with_reducible refine Bn.new _ _ _ _ ?_ ?_; (focus (first | omega | (simp; done) | (simp; omega))); decide) | with_reducible apply Bn.alloc | with_reducible apply Bn.drew | with_reducible apply Bn.set)))
      have HK_W9 := Lib.hid (show Kp N wr W9 by rw [← hW]; (repeat' (first | with_reducible exact Kp.refl _ _ | with_reducible exact HX_C.out | with_reducible apply Kp.alloc | with_reducible apply Kp.drew | (with_reducible refine Kp.put ?_ ?_ ?_ _; rotate_left; (focus (first | omega | (simp; done) | (simp; omega))); rotate_left) | (with_reducible refine Bn.new _ _ _ _ ?_ ?_; (focus (first | omega | (simp; done) | (simp; omega))); decide) | with_reducible apply Bn.alloc | with_reducible apply Bn.drew | with_reducible apply Bn.set)))
      have HC1_W9 := Lib.hid (HC1.out.keep HK_W9.out)
      have HC2_W9 := Lib.hid (HC2.out.keep HK_W9.out)
      have HRk_W9 := Lib.hid (HRk.out.keep HK_W9.out)
      have HB_W9 := Lib.hid (show Below wf.heap.size wf W9 by rw [← hW]; (repeat' (first | with_reducible exact Below.refl _ _ | with_reducible exact HB.out | (with_reducible refine Below.alloc ?_ ?_ _; rotate_left; (focus (first | omega | (simp; done) | (simp; omega)))) | with_reducible apply Below.drew | (with_reducible refine Below.setCell ?_ ?_ _; rotate_left; (focus (first | omega | (simp; done) | (simp; omega)))))))
      have HT_W9 := Lib.hid (HT.out.below HL_W9.out)
      have HA_W9 := Lib.hid (HA.out.below HL_W9.out)
      clear HL_W9
      clear hW HK_W9
      clear hl_C f_C HX_C k_C_0 k_C_1 k_C_2 HC1 HC2 HRk HB hN hs0
      have hN := hN_W9
      have HB := HB_W9
      have hs0 := hs0_W9
      have hl_C := hl_C_W9
      have f_C := f_C_W9
      have HX_C := HX_C_W9
      have k_C_0 := k_C_0_W9
      have k_C_1 := k_C_1_W9
      have k_C_2 := k_C_2_W9
      have HC1 := HC1_W9
      have HC2 := HC2_W9
      have HRk := HRk_W9
      clear hN_W9 HB_W9 hs0_W9 hl_C_W9 f_C_W9 HX_C_W9 k_C_0_W9 k_C_1_W9 k_C_2_W9 HC1_W9 HC2_W9 HRk_W9
      clear HT HA
      have HT := HT_W9
      have HA := HA_W9
      clear HT_W9 HA_W9
      cases tj
      · clear HD5
        go_region_held3 (fun w' => w'.cell? ⟨wc.heap.size, 0, none⟩ = some (.bool (decide ((pb).num < 0))) ∧ w'.cell? ⟨wc.heap.size, 1, none⟩ = some (.slice rb (nlen (pb).num.natAbs) cb) ∧ w'.cell? ⟨wc.heap.size, 2, none⟩ = some (.slice rb2 (nlen (pb).den) cb2))
          (first | (go_keep; done) | ((try dsimp only); (repeat' apply And.intro) <;> (first | (go_keep; done) | (exact cell_keep_alloc_drew (by first | omega | (simp; omega)) (by first | assumption | go_simp)) | (exact cell_keep_alloc (by first | omega | (simp; omega)) (by first | assumption | go_simp)) | (rw [cell_set2 _ _ _ _ _ _ _ _ (by omega)]; assumption) | (rw [cell_set3 _ _ _ _ _ _ _ _ _ _ (by omega)]; assumption))))
          (first
            | (go_at_call 28; refine (part_any (N := N) 1 1 _ (by exact hN) (by decide) (by decide) po HOne.out).mono ?_; rintro e wg ⟨ax, dx, rfl, hn, hb⟩; replace hb : Below W9.heap.size W9 wg := (by first | exact hb | exact bel_of_drew hb); have HT_wg := Lib.hid (HT.out.below hb); have HA_wg := Lib.hid (HA.out.below hb); have hN_wg : N ≤ wg.heap.size := Nat.le_trans hN hb.size; have hs_wg : W9.heap.size ≤ wg.heap.size := hb.size; have hs0_wg : wf.heap.size ≤ wg.heap.size := Nat.le_trans hs0 hb.size; have hl_C_wg : wc.heap.size < wg.heap.size := Nat.lt_of_lt_of_le hl_C hb.size; have k_C_0_wg : wg.cell? ⟨wc.heap.size, 0, none⟩ = some (.bool (decide ((pb).num < 0))) := (hb.cell (p := ⟨wc.heap.size, 0, none⟩) hl_C).trans k_C_0; have k_C_1_wg : wg.cell? ⟨wc.heap.size, 1, none⟩ = some (.slice rb (nlen (pb).num.natAbs) cb) := (hb.cell (p := ⟨wc.heap.size, 1, none⟩) hl_C).trans k_C_1; have k_C_2_wg : wg.cell? ⟨wc.heap.size, 2, none⟩ = some (.slice rb2 (nlen (pb).den) cb2) := (hb.cell (p := ⟨wc.heap.size, 2, none⟩) hl_C).trans k_C_2; have f_C_wg : ∀ o, wg.frozen? ⟨wc.heap.size, o, none⟩ = false := fun o => (hb.frozen (p := ⟨wc.heap.size, o, none⟩) hl_C).trans (f_C o); have HX_C_wg := Lib.hid (HX_C.out.below hb); have HC1_wg := Lib.hid (HC1.out.below hb); have HC2_wg := Lib.hid (HC2.out.below hb); have HRk_wg := Lib.hid (HRk.out.below hb); have HB_wg := Lib.hid (HB.out.trans (hb.mono hs0)); clear hb; clear hl_C f_C HX_C k_C_0 k_C_1 k_C_2 HC1 HC2 HRk HB hN hs0; have hN := hN_wg; have HB := HB_wg; have hs0 := hs0_wg; have hl_C := hl_C_wg; have f_C := f_C_wg; have HX_C := HX_C_wg; have k_C_0 := k_C_0_wg; have k_C_1 := k_C_1_wg; have k_C_2 := k_C_2_wg; have HC1 := HC1_wg; have HC2 := HC2_wg; have HRk := HRk_wg; clear hN_wg HB_wg hs0_wg hl_C_wg f_C_wg HX_C_wg k_C_0_wg k_C_1_wg k_C_2_wg HC1_wg HC2_wg HRk_wg; clear HT HA; have HT := HT_wg; have HA := HA_wg; clear HT_wg HA_wg; have HQ1 := Lib.hid hn; clear hn; skip)
            | (go_at_call 16; refine (rcmp_x (N := N) _ _ _ _ _ _ _ _ _ _ _ _ _ _ (L * 125 + 9) 1 pb po _ (by exact hN) (by exact Rt.of_norm HC1.out HC2.out _ HZb.out) (by exact HQ1.out) (by omega) (by omega) κ HKA.out).mono ?_; rintro e wh ⟨rfl, hb⟩; replace hb : Below wg.heap.size wg wh := (by first | exact hb | exact bel_of_drew hb); have HT_wh := Lib.hid (HT.out.below hb); have HA_wh := Lib.hid (HA.out.below hb); have hN_wh : N ≤ wh.heap.size := Nat.le_trans hN hb.size; have hs_wh : wg.heap.size ≤ wh.heap.size := hb.size; have hs0_wh : wf.heap.size ≤ wh.heap.size := Nat.le_trans hs0 hb.size; have hl_C_wh : wc.heap.size < wh.heap.size := Nat.lt_of_lt_of_le hl_C hb.size; have k_C_0_wh : wh.cell? ⟨wc.heap.size, 0, none⟩ = some (.bool (decide ((pb).num < 0))) := (hb.cell (p := ⟨wc.heap.size, 0, none⟩) hl_C).trans k_C_0; have k_C_1_wh : wh.cell? ⟨wc.heap.size, 1, none⟩ = some (.slice rb (nlen (pb).num.natAbs) cb) := (hb.cell (p := ⟨wc.heap.size, 1, none⟩) hl_C).trans k_C_1; have k_C_2_wh : wh.cell? ⟨wc.heap.size, 2, none⟩ = some (.slice rb2 (nlen (pb).den) cb2) := (hb.cell (p := ⟨wc.heap.size, 2, none⟩) hl_C).trans k_C_2; have f_C_wh : ∀ o, wh.frozen? ⟨wc.heap.size, o, none⟩ = false := fun o => (hb.frozen (p := ⟨wc.heap.size, o, none⟩) hl_C).trans (f_C o); have HX_C_wh := Lib.hid (HX_C.out.below hb); have HC1_wh := Lib.hid (HC1.out.below hb); have HC2_wh := Lib.hid (HC2.out.below hb); have HRk_wh := Lib.hid (HRk.out.below hb); have HQ1_wh := Lib.hid (HQ1.out.below hb); have HB_wh := Lib.hid (HB.out.trans (hb.mono hs0)); clear hb; clear hl_C f_C HX_C k_C_0 k_C_1 k_C_2 HC1 HC2 HRk HQ1 HB hN hs0; have hN := hN_wh; have HB := HB_wh; have hs0 := hs0_wh; have hl_C := hl_C_wh; have f_C := f_C_wh; have HX_C := HX_C_wh; have k_C_0 := k_C_0_wh; have k_C_1 := k_C_1_wh; have k_C_2 := k_C_2_wh; have HC1 := HC1_wh; have HC2 := HC2_wh; have HRk := HRk_wh; have HQ1 := HQ1_wh; clear hN_wh HB_wh hs0_wh hl_C_wh f_C_wh HX_C_wh k_C_0_wh k_C_1_wh k_C_2_wh HC1_wh HC2_wh HRk_wh HQ1_wh; clear HT HA; have HT := HT_wh; have HA := HA_wh; clear HT_wh HA_wh; skip))
        obtain ⟨b1, o1, e1, hc⟩ := HA.out.2.2 (by omega)
        cases e1
        obtain ⟨s, ra, rn, rc, da, dn, dc, g0, g1, g2, hrk⟩ := hc k hkn
        clear HRk
        have HRk := Lib.hid hrk
        have hlb : b0 < wh.heap.size := World.block_lt_of_cell? wh _ g0
        clear hc hrk
        go_wp2_with fail
        refine region_name fun W10 hW => ?_
        have HL_W10 := Lib.hid (show Below wh.heap.size wh W10 by rw [← hW]; (repeat' (first | with_reducible exact Below.refl _ _ | (with_reducible refine Below.alloc ?_ ?_ _; rotate_left; (focus (first | omega | (simp; done) | (simp; omega)))) | with_reducible apply Below.drew | (with_reducible refine Below.setCell ?_ ?_ _; rotate_left; (focus (first | omega | (simp; done) | (simp; omega)))))))
        have hN_W10 : N ≤ W10.heap.size := by rw [← hW]; (first | omega | (simp; done) | (simp; omega))
        have hs_W10 : wh.heap.size ≤ W10.heap.size := by rw [← hW]; (first | omega | (simp; done) | (simp; omega))
        have hs0_W10 : wf.heap.size ≤ W10.heap.size := by rw [← hW]; (first | omega | (simp; done) | (simp; omega))
        have hl_C_W10 : wc.heap.size < W10.heap.size := by rw [← hW]; (first | omega | (simp; done) | (simp; omega))
        have k_C_0_W10 : W10.cell? ⟨wc.heap.size, 0, none⟩ = some (.bool (decide ((pb).num < 0))) := (HL_W10.out.cell (p := ⟨wc.heap.size, 0, none⟩) hl_C).trans k_C_0
        have k_C_1_W10 : W10.cell? ⟨wc.heap.size, 1, none⟩ = some (.slice rb (nlen (pb).num.natAbs) cb) := (HL_W10.out.cell (p := ⟨wc.heap.size, 1, none⟩) hl_C).trans k_C_1
        have k_C_2_W10 : W10.cell? ⟨wc.heap.size, 2, none⟩ = some (.slice rb2 (nlen (pb).den) cb2) := (HL_W10.out.cell (p := ⟨wc.heap.size, 2, none⟩) hl_C).trans k_C_2
        have f_C_W10 : ∀ o, W10.frozen? ⟨wc.heap.size, o, none⟩ = false := fun o => (HL_W10.out.frozen (p := ⟨wc.heap.size, o, none⟩) hl_C).trans (f_C o)
        have HX_C_W10 := Lib.hid (show Bn W10 (wc.heap.size) by rw [← hW]; (repeat' (first | with_reducible exact Kp.refl _ _ | with_reducible exact HX_C.out | with_reducible apply Kp.alloc | with_reducible apply Kp.drew | (with_reducible refine Kp.put ?_ ?_ ?_ _; rotate_left; (focus (first | omega | (simp; done) | (simp; omega))); rotate_left) | (with_reducible refine Bn.new _ _ _ _ ?_ ?_; (focus (first | omega | (simp; done) | (simp; omega))); decide) | with_reducible apply Bn.alloc | with_reducible apply Bn.drew | with_reducible apply Bn.set)))
        have HK_W10 := Lib.hid (show Kp N wh W10 by rw [← hW]; (repeat' (first | with_reducible exact Kp.refl _ _ | with_reducible exact HX_C.out | with_reducible apply Kp.alloc | with_reducible apply Kp.drew | (with_reducible refine Kp.put ?_ ?_ ?_ _; rotate_left; (focus (first | omega | (simp; done) | (simp; omega))); rotate_left) | (with_reducible refine Bn.new _ _ _ _ ?_ ?_; (focus (first | omega | (simp; done) | (simp; omega))); decide) | with_reducible apply Bn.alloc | with_reducible apply Bn.drew | with_reducible apply Bn.set)))
        have HC1_W10 := Lib.hid (HC1.out.keep HK_W10.out)
        have HC2_W10 := Lib.hid (HC2.out.keep HK_W10.out)
        have HRk_W10 := Lib.hid (HRk.out.keep HK_W10.out)
        have HQ1_W10 := Lib.hid (HQ1.out.keep HK_W10.out)
        have HB_W10 := Lib.hid (show Below wf.heap.size wf W10 by rw [← hW]; (repeat' (first | with_reducible exact Below.refl _ _ | with_reducible exact HB.out | (with_reducible refine Below.alloc ?_ ?_ _; rotate_left; (focus (first | omega | (simp; done) | (simp; omega)))) | with_reducible apply Below.drew | (with_reducible refine Below.setCell ?_ ?_ _; rotate_left; (focus (first | omega | (simp; done) | (simp; omega)))))))
        rw [hW] at g0 g1 g2 hlb
        have HT_W10 := Lib.hid (HT.out.below HL_W10.out)
        have HA_W10 := Lib.hid (HA.out.below HL_W10.out)
        clear HL_W10
        clear hW HK_W10
        clear hl_C f_C HX_C k_C_0 k_C_1 k_C_2 HC1 HC2 HRk HQ1 HB hN hs0
        have hN := hN_W10
        have HB := HB_W10
        have hs0 := hs0_W10
        have hl_C := hl_C_W10
        have f_C := f_C_W10
        have HX_C := HX_C_W10
        have k_C_0 := k_C_0_W10
        have k_C_1 := k_C_1_W10
        have k_C_2 := k_C_2_W10
        have HC1 := HC1_W10
        have HC2 := HC2_W10
        have HRk := HRk_W10
        have HQ1 := HQ1_W10
        clear hN_W10 HB_W10 hs0_W10 hl_C_W10 f_C_W10 HX_C_W10 k_C_0_W10 k_C_1_W10 k_C_2_W10 HC1_W10 HC2_W10 HRk_W10 HQ1_W10
        clear HT HA
        have HT := HT_W10
        have HA := HA_W10
        clear HT_W10 HA_W10
        refine region_inv2 (by kernel_rfl) (TwoJ κ κ2 pb rb rb2 cb cb2 s ra da rn rc dn dc b0 o0 j cap k (W10)) ?_ ?_ ?_ ?_
        · exact ⟨undef, undef, undef, undef, undef, undef, undef, undef, undef, undef, undef, undef, undef, undef, undef, undef, undef, undef, undef, undef, undef, undef, .bool false, by simp only [Act.put, List.setIfInBounds_toArray, List.set_cons_zero, List.set_cons_succ], Since.drawn _, (fun h => by cases h), (fun h => by cases h), (fun h => by cases h), (fun h => by cases h), (fun h => by cases h), (fun h => by cases h), (fun h => by cases h), (fun h => by cases h), (fun h => by cases h), (fun h => by cases h), (fun h => by cases h), (fun h => by cases h), (fun h => by cases h), (fun h => by cases h), (fun h => by cases h), (fun h => by cases h), (fun h => by cases h), (fun h => by cases h), (fun h => by cases h), (fun h => by cases h), (fun h => by cases h)⟩
        · exact acyc_spec (by kernel_rfl)
        · intro Ls a0 wq i o ho hLi hafter hJ
          obtain ⟨u106, u107, u108, u109, u110, u111, u112, u113, u114, u115, u116, u117, u118, u119, u120, u121, u122, u123, u124, u125, u126, u127, u4, rfl, hS, p0, p1, p2, p3, p4, p5, p8, p9, p10, p11, p12, p13, p14, p15, p16, p17, p18, p19, p20, p21, p22⟩ := hJ
          have hi : i < 23 := (Array.getElem?_eq_some_iff.1 ho).1
          obtain rfl | rfl | rfl | rfl | rfl | rfl | rfl | rfl | rfl | rfl | rfl | rfl | rfl | rfl | rfl | rfl | rfl | rfl | rfl | rfl | rfl | rfl | rfl : i = 0 ∨ i = 1 ∨ i = 2 ∨ i = 3 ∨ i = 4 ∨ i = 5 ∨ i = 6 ∨ i = 7 ∨ i = 8 ∨ i = 9 ∨ i = 10 ∨ i = 11 ∨ i = 12 ∨ i = 13 ∨ i = 14 ∨ i = 15 ∨ i = 16 ∨ i = 17 ∨ i = 18 ∨ i = 19 ∨ i = 20 ∨ i = 21 ∨ i = 22 := by omega
          · simp only [List.getElem?_toArray, List.getElem?_cons_zero, List.getElem?_cons_succ, Option.some.injEq] at ho
            subst ho
            have P0 := Lib.hid p0
            have P1 := Lib.hid p1
            have P2 := Lib.hid p2
            have P3 := Lib.hid p3
            have P4 := Lib.hid p4
            have P5 := Lib.hid p5
            have P8 := Lib.hid p8
            have P9 := Lib.hid p9
            have P10 := Lib.hid p10
            have P11 := Lib.hid p11
            have P12 := Lib.hid p12
            have P13 := Lib.hid p13
            have P14 := Lib.hid p14
            have P15 := Lib.hid p15
            have P16 := Lib.hid p16
            have P17 := Lib.hid p17
            have P18 := Lib.hid p18
            have P19 := Lib.hid p19
            have P20 := Lib.hid p20
            have P21 := Lib.hid p21
            have P22 := Lib.hid p22
            have HS := Lib.hid hS
            clear hS hLi hafter p0 p1 p2 p3 p4 p5 p8 p9 p10 p11 p12 p13 p14 p15 p16 p17 p18 p19 p20 p21 p22
            simp only [Act.put, List.setIfInBounds_toArray, List.set_cons_zero, List.set_cons_succ]
            go_wp2_with fail
            exact ⟨.int .i64 κ, u107, u108, u109, u110, u111, u112, u113, u114, u115, u116, u117, u118, u119, u120, u121, u122, u123, u124, u125, u126, u127, u4, by simp only [Act.put, List.setIfInBounds_toArray, List.set_cons_zero, List.set_cons_succ], HS.out, (fun _ => rfl), (fun h => by first | rfl | exact P1.out (by simpa using h)), (fun h => by first | rfl | exact P2.out (by simpa using h)), (fun h => by first | rfl | exact P3.out (by simpa using h)), (fun h => by first | rfl | exact P4.out (by simpa using h)), (fun h => by first | rfl | exact P5.out (by simpa using h)), (fun h => by first | rfl | exact P8.out (by simpa using h)), (fun h => by first | rfl | exact P9.out (by simpa using h)), (fun h => by first | rfl | exact P10.out (by simpa using h)), (fun h => by first | rfl | exact P11.out (by simpa using h)), (fun h => by first | rfl | exact P12.out (by simpa using h)), (fun h => by first | rfl | exact P13.out (by simpa using h)), (fun h => by first | rfl | exact P14.out (by simpa using h)), (fun h => by first | rfl | exact P15.out (by simpa using h)), (fun h => by first | rfl | exact P16.out (by simpa using h)), (fun h => by first | rfl | exact P17.out (by simpa using h)), (fun h => by first | rfl | exact P18.out (by simpa using h)), (fun h => by first | rfl | exact P19.out (by simpa using h)), (fun h => by first | rfl | exact P20.out (by simpa using h)), (fun h => by first | rfl | exact P21.out (by simpa using h)), (fun h => by first | rfl | exact P22.out (by simpa using h))⟩
          · simp only [List.getElem?_toArray, List.getElem?_cons_zero, List.getElem?_cons_succ, Option.some.injEq] at ho
            subst ho
            obtain rfl := p0 (hafter ⟨0, .data⟩ (by simp) rfl)
            have P0 := Lib.hid p0
            have P1 := Lib.hid p1
            have P2 := Lib.hid p2
            have P3 := Lib.hid p3
            have P4 := Lib.hid p4
            have P5 := Lib.hid p5
            have P8 := Lib.hid p8
            have P9 := Lib.hid p9
            have P10 := Lib.hid p10
            have P11 := Lib.hid p11
            have P12 := Lib.hid p12
            have P13 := Lib.hid p13
            have P14 := Lib.hid p14
            have P15 := Lib.hid p15
            have P16 := Lib.hid p16
            have P17 := Lib.hid p17
            have P18 := Lib.hid p18
            have P19 := Lib.hid p19
            have P20 := Lib.hid p20
            have P21 := Lib.hid p21
            have P22 := Lib.hid p22
            have HS := Lib.hid hS
            clear hS hLi hafter p0 p1 p2 p3 p4 p5 p8 p9 p10 p11 p12 p13 p14 p15 p16 p17 p18 p19 p20 p21 p22
            simp only [Act.put, List.setIfInBounds_toArray, List.set_cons_zero, List.set_cons_succ]
            go_wp2_with fail
            exact ⟨.int .i64 κ, .bool true, u108, u109, u110, u111, u112, u113, u114, u115, u116, u117, u118, u119, u120, u121, u122, u123, u124, u125, u126, u127, u4, by simp only [Act.put, List.setIfInBounds_toArray, List.set_cons_zero, List.set_cons_succ], HS.out, (fun h => by first | rfl | exact P0.out (by simpa using h)), (fun _ => rfl), (fun h => by first | rfl | exact P2.out (by simpa using h)), (fun h => by first | rfl | exact P3.out (by simpa using h)), (fun h => by first | rfl | exact P4.out (by simpa using h)), (fun h => by first | rfl | exact P5.out (by simpa using h)), (fun h => by first | rfl | exact P8.out (by simpa using h)), (fun h => by first | rfl | exact P9.out (by simpa using h)), (fun h => by first | rfl | exact P10.out (by simpa using h)), (fun h => by first | rfl | exact P11.out (by simpa using h)), (fun h => by first | rfl | exact P12.out (by simpa using h)), (fun h => by first | rfl | exact P13.out (by simpa using h)), (fun h => by first | rfl | exact P14.out (by simpa using h)), (fun h => by first | rfl | exact P15.out (by simpa using h)), (fun h => by first | rfl | exact P16.out (by simpa using h)), (fun h => by first | rfl | exact P17.out (by simpa using h)), (fun h => by first | rfl | exact P18.out (by simpa using h)), (fun h => by first | rfl | exact P19.out (by simpa using h)), (fun h => by first | rfl | exact P20.out (by simpa using h)), (fun h => by first | rfl | exact P21.out (by simpa using h)), (fun h => by first | rfl | exact P22.out (by simpa using h))⟩
          · simp only [List.getElem?_toArray, List.getElem?_cons_zero, List.getElem?_cons_succ, Option.some.injEq] at ho
            subst ho
            obtain rfl := p1 (hafter ⟨1, .data⟩ (by simp) rfl)
            have P0 := Lib.hid p0
            have P1 := Lib.hid p1
            have P2 := Lib.hid p2
            have P3 := Lib.hid p3
            have P4 := Lib.hid p4
            have P5 := Lib.hid p5
            have P8 := Lib.hid p8
            have P9 := Lib.hid p9
            have P10 := Lib.hid p10
            have P11 := Lib.hid p11
            have P12 := Lib.hid p12
            have P13 := Lib.hid p13
            have P14 := Lib.hid p14
            have P15 := Lib.hid p15
            have P16 := Lib.hid p16
            have P17 := Lib.hid p17
            have P18 := Lib.hid p18
            have P19 := Lib.hid p19
            have P20 := Lib.hid p20
            have P21 := Lib.hid p21
            have P22 := Lib.hid p22
            have HS := Lib.hid hS
            clear hS hLi hafter p0 p1 p2 p3 p4 p5 p8 p9 p10 p11 p12 p13 p14 p15 p16 p17 p18 p19 p20 p21 p22
            simp only [Act.put, List.setIfInBounds_toArray, List.set_cons_zero, List.set_cons_succ]
            go_wp2_with fail
            exact ⟨u106, .bool true, .bool true, u109, u110, u111, u112, u113, u114, u115, u116, u117, u118, u119, u120, u121, u122, u123, u124, u125, u126, u127, u4, by simp only [Act.put, List.setIfInBounds_toArray, List.set_cons_zero, List.set_cons_succ], HS.out, (fun h => by first | rfl | exact P0.out (by simpa using h)), (fun h => by first | rfl | exact P1.out (by simpa using h)), (fun _ => rfl), (fun h => by first | rfl | exact P3.out (by simpa using h)), (fun h => by first | rfl | exact P4.out (by simpa using h)), (fun h => by first | rfl | exact P5.out (by simpa using h)), (fun h => by first | rfl | exact P8.out (by simpa using h)), (fun h => by first | rfl | exact P9.out (by simpa using h)), (fun h => by first | rfl | exact P10.out (by simpa using h)), (fun h => by first | rfl | exact P11.out (by simpa using h)), (fun h => by first | rfl | exact P12.out (by simpa using h)), (fun h => by first | rfl | exact P13.out (by simpa using h)), (fun h => by first | rfl | exact P14.out (by simpa using h)), (fun h => by first | rfl | exact P15.out (by simpa using h)), (fun h => by first | rfl | exact P16.out (by simpa using h)), (fun h => by first | rfl | exact P17.out (by simpa using h)), (fun h => by first | rfl | exact P18.out (by simpa using h)), (fun h => by first | rfl | exact P19.out (by simpa using h)), (fun h => by first | rfl | exact P20.out (by simpa using h)), (fun h => by first | rfl | exact P21.out (by simpa using h)), (fun h => by first | rfl | exact P22.out (by simpa using h))⟩
          · simp only [List.getElem?_toArray, List.getElem?_cons_zero, List.getElem?_cons_succ, Option.some.injEq] at ho
            subst ho
            obtain rfl := p2 (hafter ⟨2, .guard⟩ (by simp) rfl)
            have P0 := Lib.hid p0
            have P1 := Lib.hid p1
            have P2 := Lib.hid p2
            have P3 := Lib.hid p3
            have P4 := Lib.hid p4
            have P5 := Lib.hid p5
            have P8 := Lib.hid p8
            have P9 := Lib.hid p9
            have P10 := Lib.hid p10
            have P11 := Lib.hid p11
            have P12 := Lib.hid p12
            have P13 := Lib.hid p13
            have P14 := Lib.hid p14
            have P15 := Lib.hid p15
            have P16 := Lib.hid p16
            have P17 := Lib.hid p17
            have P18 := Lib.hid p18
            have P19 := Lib.hid p19
            have P20 := Lib.hid p20
            have P21 := Lib.hid p21
            have P22 := Lib.hid p22
            have HS := Lib.hid hS
            clear hS hLi hafter p0 p1 p2 p3 p4 p5 p8 p9 p10 p11 p12 p13 p14 p15 p16 p17 p18 p19 p20 p21 p22
            simp only [Act.put, List.setIfInBounds_toArray, List.set_cons_zero, List.set_cons_succ]
            go_wp2_with fail
            exact ⟨u106, u107, .bool true, .bool false, u110, u111, u112, u113, u114, u115, u116, u117, u118, u119, u120, u121, u122, u123, u124, u125, u126, u127, u4, by simp only [Act.put, List.setIfInBounds_toArray, List.set_cons_zero, List.set_cons_succ], HS.out, (fun h => by first | rfl | exact P0.out (by simpa using h)), (fun h => by first | rfl | exact P1.out (by simpa using h)), (fun h => by first | rfl | exact P2.out (by simpa using h)), (fun _ => rfl), (fun h => by first | rfl | exact P4.out (by simpa using h)), (fun h => by first | rfl | exact P5.out (by simpa using h)), (fun h => by first | rfl | exact P8.out (by simpa using h)), (fun h => by first | rfl | exact P9.out (by simpa using h)), (fun h => by first | rfl | exact P10.out (by simpa using h)), (fun h => by first | rfl | exact P11.out (by simpa using h)), (fun h => by first | rfl | exact P12.out (by simpa using h)), (fun h => by first | rfl | exact P13.out (by simpa using h)), (fun h => by first | rfl | exact P14.out (by simpa using h)), (fun h => by first | rfl | exact P15.out (by simpa using h)), (fun h => by first | rfl | exact P16.out (by simpa using h)), (fun h => by first | rfl | exact P17.out (by simpa using h)), (fun h => by first | rfl | exact P18.out (by simpa using h)), (fun h => by first | rfl | exact P19.out (by simpa using h)), (fun h => by first | rfl | exact P20.out (by simpa using h)), (fun h => by first | rfl | exact P21.out (by simpa using h)), (fun h => by first | rfl | exact P22.out (by simpa using h))⟩
          · simp only [List.getElem?_toArray, List.getElem?_cons_zero, List.getElem?_cons_succ, Option.some.injEq] at ho
            subst ho
            obtain rfl := p3 (hafter ⟨3, .data⟩ (by simp) rfl)
            obtain rfl := p2 (hafter ⟨2, .guard⟩ (by simp) rfl)
            have P0 := Lib.hid p0
            have P1 := Lib.hid p1
            have P2 := Lib.hid p2
            have P3 := Lib.hid p3
            have P4 := Lib.hid p4
            have P5 := Lib.hid p5
            have P8 := Lib.hid p8
            have P9 := Lib.hid p9
            have P10 := Lib.hid p10
            have P11 := Lib.hid p11
            have P12 := Lib.hid p12
            have P13 := Lib.hid p13
            have P14 := Lib.hid p14
            have P15 := Lib.hid p15
            have P16 := Lib.hid p16
            have P17 := Lib.hid p17
            have P18 := Lib.hid p18
            have P19 := Lib.hid p19
            have P20 := Lib.hid p20
            have P21 := Lib.hid p21
            have P22 := Lib.hid p22
            have HS := Lib.hid hS
            clear hS hLi hafter p0 p1 p2 p3 p4 p5 p8 p9 p10 p11 p12 p13 p14 p15 p16 p17 p18 p19 p20 p21 p22
            simp only [Act.put, List.setIfInBounds_toArray, List.set_cons_zero, List.set_cons_succ]
            go_wp2_with fail
            exact ⟨u106, u107, .bool true, .bool false, .bool true, u111, u112, u113, u114, u115, u116, u117, u118, u119, u120, u121, u122, u123, u124, u125, u126, u127, u4, by simp only [Act.put, List.setIfInBounds_toArray, List.set_cons_zero, List.set_cons_succ], HS.out, (fun h => by first | rfl | exact P0.out (by simpa using h)), (fun h => by first | rfl | exact P1.out (by simpa using h)), (fun h => by first | rfl | exact P2.out (by simpa using h)), (fun h => by first | rfl | exact P3.out (by simpa using h)), (fun _ => rfl), (fun h => by first | rfl | exact P5.out (by simpa using h)), (fun h => by first | rfl | exact P8.out (by simpa using h)), (fun h => by first | rfl | exact P9.out (by simpa using h)), (fun h => by first | rfl | exact P10.out (by simpa using h)), (fun h => by first | rfl | exact P11.out (by simpa using h)), (fun h => by first | rfl | exact P12.out (by simpa using h)), (fun h => by first | rfl | exact P13.out (by simpa using h)), (fun h => by first | rfl | exact P14.out (by simpa using h)), (fun h => by first | rfl | exact P15.out (by simpa using h)), (fun h => by first | rfl | exact P16.out (by simpa using h)), (fun h => by first | rfl | exact P17.out (by simpa using h)), (fun h => by first | rfl | exact P18.out (by simpa using h)), (fun h => by first | rfl | exact P19.out (by simpa using h)), (fun h => by first | rfl | exact P20.out (by simpa using h)), (fun h => by first | rfl | exact P21.out (by simpa using h)), (fun h => by first | rfl | exact P22.out (by simpa using h))⟩
          · simp only [List.getElem?_toArray, List.getElem?_cons_zero, List.getElem?_cons_succ, Option.some.injEq] at ho
            subst ho
            obtain rfl := p4 (hafter ⟨4, .data⟩ (by simp) rfl)
            obtain rfl := p2 (hafter ⟨2, .guard⟩ (by simp) rfl)
            have P0 := Lib.hid p0
            have P1 := Lib.hid p1
            have P2 := Lib.hid p2
            have P3 := Lib.hid p3
            have P4 := Lib.hid p4
            have P5 := Lib.hid p5
            have P8 := Lib.hid p8
            have P9 := Lib.hid p9
            have P10 := Lib.hid p10
            have P11 := Lib.hid p11
            have P12 := Lib.hid p12
            have P13 := Lib.hid p13
            have P14 := Lib.hid p14
            have P15 := Lib.hid p15
            have P16 := Lib.hid p16
            have P17 := Lib.hid p17
            have P18 := Lib.hid p18
            have P19 := Lib.hid p19
            have P20 := Lib.hid p20
            have P21 := Lib.hid p21
            have P22 := Lib.hid p22
            have HS := Lib.hid hS
            clear hS hLi hafter p0 p1 p2 p3 p4 p5 p8 p9 p10 p11 p12 p13 p14 p15 p16 p17 p18 p19 p20 p21 p22
            simp only [Act.put, List.setIfInBounds_toArray, List.set_cons_zero, List.set_cons_succ]
            go_wp2_with fail
            exact ⟨u106, u107, .bool true, u109, .bool true, .bool true, u112, u113, u114, u115, u116, u117, u118, u119, u120, u121, u122, u123, u124, u125, u126, u127, u4, by simp only [Act.put, List.setIfInBounds_toArray, List.set_cons_zero, List.set_cons_succ], HS.out, (fun h => by first | rfl | exact P0.out (by simpa using h)), (fun h => by first | rfl | exact P1.out (by simpa using h)), (fun h => by first | rfl | exact P2.out (by simpa using h)), (fun h => by first | rfl | exact P3.out (by simpa using h)), (fun h => by first | rfl | exact P4.out (by simpa using h)), (fun _ => rfl), (fun h => by first | rfl | exact P8.out (by simpa using h)), (fun h => by first | rfl | exact P9.out (by simpa using h)), (fun h => by first | rfl | exact P10.out (by simpa using h)), (fun h => by first | rfl | exact P11.out (by simpa using h)), (fun h => by first | rfl | exact P12.out (by simpa using h)), (fun h => by first | rfl | exact P13.out (by simpa using h)), (fun h => by first | rfl | exact P14.out (by simpa using h)), (fun h => by first | rfl | exact P15.out (by simpa using h)), (fun h => by first | rfl | exact P16.out (by simpa using h)), (fun h => by first | rfl | exact P17.out (by simpa using h)), (fun h => by first | rfl | exact P18.out (by simpa using h)), (fun h => by first | rfl | exact P19.out (by simpa using h)), (fun h => by first | rfl | exact P20.out (by simpa using h)), (fun h => by first | rfl | exact P21.out (by simpa using h)), (fun h => by first | rfl | exact P22.out (by simpa using h))⟩
          · simp only [List.getElem?_toArray, List.getElem?_cons_zero, List.getElem?_cons_succ, Option.some.injEq] at ho
            subst ho
            obtain rfl := p5 (hafter ⟨5, .guard⟩ (by simp) rfl)
            have P0 := Lib.hid p0
            have P1 := Lib.hid p1
            have P2 := Lib.hid p2
            have P3 := Lib.hid p3
            have P4 := Lib.hid p4
            have P5 := Lib.hid p5
            have P8 := Lib.hid p8
            have P9 := Lib.hid p9
            have P10 := Lib.hid p10
            have P11 := Lib.hid p11
            have P12 := Lib.hid p12
            have P13 := Lib.hid p13
            have P14 := Lib.hid p14
            have P15 := Lib.hid p15
            have P16 := Lib.hid p16
            have P17 := Lib.hid p17
            have P18 := Lib.hid p18
            have P19 := Lib.hid p19
            have P20 := Lib.hid p20
            have P21 := Lib.hid p21
            have P22 := Lib.hid p22
            have HS := Lib.hid hS
            clear hS hLi hafter p0 p1 p2 p3 p4 p5 p8 p9 p10 p11 p12 p13 p14 p15 p16 p17 p18 p19 p20 p21 p22
            simp only [Act.put, List.setIfInBounds_toArray, List.set_cons_zero, List.set_cons_succ]
            go_wp2_with fail
            exact ⟨u106, u107, u108, u109, u110, .bool true, undef, u113, u114, u115, u116, u117, u118, u119, u120, u121, u122, u123, u124, u125, u126, u127, u4, by simp only [Act.put, List.setIfInBounds_toArray, List.set_cons_zero, List.set_cons_succ], HS.out, (fun h => by first | rfl | exact P0.out (by simpa using h)), (fun h => by first | rfl | exact P1.out (by simpa using h)), (fun h => by first | rfl | exact P2.out (by simpa using h)), (fun h => by first | rfl | exact P3.out (by simpa using h)), (fun h => by first | rfl | exact P4.out (by simpa using h)), (fun h => by first | rfl | exact P5.out (by simpa using h)), (fun h => by first | rfl | exact P8.out (by simpa using h)), (fun h => by first | rfl | exact P9.out (by simpa using h)), (fun h => by first | rfl | exact P10.out (by simpa using h)), (fun h => by first | rfl | exact P11.out (by simpa using h)), (fun h => by first | rfl | exact P12.out (by simpa using h)), (fun h => by first | rfl | exact P13.out (by simpa using h)), (fun h => by first | rfl | exact P14.out (by simpa using h)), (fun h => by first | rfl | exact P15.out (by simpa using h)), (fun h => by first | rfl | exact P16.out (by simpa using h)), (fun h => by first | rfl | exact P17.out (by simpa using h)), (fun h => by first | rfl | exact P18.out (by simpa using h)), (fun h => by first | rfl | exact P19.out (by simpa using h)), (fun h => by first | rfl | exact P20.out (by simpa using h)), (fun h => by first | rfl | exact P21.out (by simpa using h)), (fun h => by first | rfl | exact P22.out (by simpa using h))⟩
          · simp only [List.getElem?_toArray, List.getElem?_cons_zero, List.getElem?_cons_succ, Option.some.injEq] at ho
            subst ho
            obtain rfl := p5 (hafter ⟨5, .guard⟩ (by simp) rfl)
            have P0 := Lib.hid p0
            have P1 := Lib.hid p1
            have P2 := Lib.hid p2
            have P3 := Lib.hid p3
            have P4 := Lib.hid p4
            have P5 := Lib.hid p5
            have P8 := Lib.hid p8
            have P9 := Lib.hid p9
            have P10 := Lib.hid p10
            have P11 := Lib.hid p11
            have P12 := Lib.hid p12
            have P13 := Lib.hid p13
            have P14 := Lib.hid p14
            have P15 := Lib.hid p15
            have P16 := Lib.hid p16
            have P17 := Lib.hid p17
            have P18 := Lib.hid p18
            have P19 := Lib.hid p19
            have P20 := Lib.hid p20
            have P21 := Lib.hid p21
            have P22 := Lib.hid p22
            have HS := Lib.hid hS
            clear hS hLi hafter p0 p1 p2 p3 p4 p5 p8 p9 p10 p11 p12 p13 p14 p15 p16 p17 p18 p19 p20 p21 p22
            simp only [Act.put, List.setIfInBounds_toArray, List.set_cons_zero, List.set_cons_succ]
            go_wp2_with fail
            exact ⟨u106, u107, u108, u109, u110, .bool true, u112, undef, u114, u115, u116, u117, u118, u119, u120, u121, u122, u123, u124, u125, u126, u127, u4, by simp only [Act.put, List.setIfInBounds_toArray, List.set_cons_zero, List.set_cons_succ], HS.out, (fun h => by first | rfl | exact P0.out (by simpa using h)), (fun h => by first | rfl | exact P1.out (by simpa using h)), (fun h => by first | rfl | exact P2.out (by simpa using h)), (fun h => by first | rfl | exact P3.out (by simpa using h)), (fun h => by first | rfl | exact P4.out (by simpa using h)), (fun h => by first | rfl | exact P5.out (by simpa using h)), (fun h => by first | rfl | exact P8.out (by simpa using h)), (fun h => by first | rfl | exact P9.out (by simpa using h)), (fun h => by first | rfl | exact P10.out (by simpa using h)), (fun h => by first | rfl | exact P11.out (by simpa using h)), (fun h => by first | rfl | exact P12.out (by simpa using h)), (fun h => by first | rfl | exact P13.out (by simpa using h)), (fun h => by first | rfl | exact P14.out (by simpa using h)), (fun h => by first | rfl | exact P15.out (by simpa using h)), (fun h => by first | rfl | exact P16.out (by simpa using h)), (fun h => by first | rfl | exact P17.out (by simpa using h)), (fun h => by first | rfl | exact P18.out (by simpa using h)), (fun h => by first | rfl | exact P19.out (by simpa using h)), (fun h => by first | rfl | exact P20.out (by simpa using h)), (fun h => by first | rfl | exact P21.out (by simpa using h)), (fun h => by first | rfl | exact P22.out (by simpa using h))⟩
          · simp only [List.getElem?_toArray, List.getElem?_cons_zero, List.getElem?_cons_succ, Option.some.injEq] at ho
            subst ho
            obtain rfl := p5 (hafter ⟨5, .data⟩ (by simp) rfl)
            obtain rfl := p2 (hafter ⟨2, .guard⟩ (by simp) rfl)
            have P0 := Lib.hid p0
            have P1 := Lib.hid p1
            have P2 := Lib.hid p2
            have P3 := Lib.hid p3
            have P4 := Lib.hid p4
            have P5 := Lib.hid p5
            have P8 := Lib.hid p8
            have P9 := Lib.hid p9
            have P10 := Lib.hid p10
            have P11 := Lib.hid p11
            have P12 := Lib.hid p12
            have P13 := Lib.hid p13
            have P14 := Lib.hid p14
            have P15 := Lib.hid p15
            have P16 := Lib.hid p16
            have P17 := Lib.hid p17
            have P18 := Lib.hid p18
            have P19 := Lib.hid p19
            have P20 := Lib.hid p20
            have P21 := Lib.hid p21
            have P22 := Lib.hid p22
            have HS := Lib.hid hS
            clear hS hLi hafter p0 p1 p2 p3 p4 p5 p8 p9 p10 p11 p12 p13 p14 p15 p16 p17 p18 p19 p20 p21 p22
            simp only [Act.put, List.setIfInBounds_toArray, List.set_cons_zero, List.set_cons_succ]
            go_wp2_with fail
            exact ⟨u106, u107, .bool true, u109, u110, .bool true, u112, u113, .bool true, u115, u116, u117, u118, u119, u120, u121, u122, u123, u124, u125, u126, u127, u4, by simp only [Act.put, List.setIfInBounds_toArray, List.set_cons_zero, List.set_cons_succ], HS.out, (fun h => by first | rfl | exact P0.out (by simpa using h)), (fun h => by first | rfl | exact P1.out (by simpa using h)), (fun h => by first | rfl | exact P2.out (by simpa using h)), (fun h => by first | rfl | exact P3.out (by simpa using h)), (fun h => by first | rfl | exact P4.out (by simpa using h)), (fun h => by first | rfl | exact P5.out (by simpa using h)), (fun _ => rfl), (fun h => by first | rfl | exact P9.out (by simpa using h)), (fun h => by first | rfl | exact P10.out (by simpa using h)), (fun h => by first | rfl | exact P11.out (by simpa using h)), (fun h => by first | rfl | exact P12.out (by simpa using h)), (fun h => by first | rfl | exact P13.out (by simpa using h)), (fun h => by first | rfl | exact P14.out (by simpa using h)), (fun h => by first | rfl | exact P15.out (by simpa using h)), (fun h => by first | rfl | exact P16.out (by simpa using h)), (fun h => by first | rfl | exact P17.out (by simpa using h)), (fun h => by first | rfl | exact P18.out (by simpa using h)), (fun h => by first | rfl | exact P19.out (by simpa using h)), (fun h => by first | rfl | exact P20.out (by simpa using h)), (fun h => by first | rfl | exact P21.out (by simpa using h)), (fun h => by first | rfl | exact P22.out (by simpa using h))⟩
          · simp only [List.getElem?_toArray, List.getElem?_cons_zero, List.getElem?_cons_succ, Option.some.injEq] at ho
            subst ho
            obtain rfl := p2 (hafter ⟨2, .data⟩ (by simp) rfl)
            obtain rfl := p8 (hafter ⟨8, .data⟩ (by simp) rfl)
            have P0 := Lib.hid p0
            have P1 := Lib.hid p1
            have P2 := Lib.hid p2
            have P3 := Lib.hid p3
            have P4 := Lib.hid p4
            have P5 := Lib.hid p5
            have P8 := Lib.hid p8
            have P9 := Lib.hid p9
            have P10 := Lib.hid p10
            have P11 := Lib.hid p11
            have P12 := Lib.hid p12
            have P13 := Lib.hid p13
            have P14 := Lib.hid p14
            have P15 := Lib.hid p15
            have P16 := Lib.hid p16
            have P17 := Lib.hid p17
            have P18 := Lib.hid p18
            have P19 := Lib.hid p19
            have P20 := Lib.hid p20
            have P21 := Lib.hid p21
            have P22 := Lib.hid p22
            have HS := Lib.hid hS
            clear hS hLi hafter p0 p1 p2 p3 p4 p5 p8 p9 p10 p11 p12 p13 p14 p15 p16 p17 p18 p19 p20 p21 p22
            simp only [Act.put, List.setIfInBounds_toArray, List.set_cons_zero, List.set_cons_succ]
            go_wp2_with fail
            exact ⟨u106, u107, .bool true, u109, u110, u111, u112, u113, .bool true, .bool true, u116, u117, u118, u119, u120, u121, u122, u123, u124, u125, u126, u127, u4, by simp only [Act.put, List.setIfInBounds_toArray, List.set_cons_zero, List.set_cons_succ], HS.out, (fun h => by first | rfl | exact P0.out (by simpa using h)), (fun h => by first | rfl | exact P1.out (by simpa using h)), (fun h => by first | rfl | exact P2.out (by simpa using h)), (fun h => by first | rfl | exact P3.out (by simpa using h)), (fun h => by first | rfl | exact P4.out (by simpa using h)), (fun h => by first | rfl | exact P5.out (by simpa using h)), (fun h => by first | rfl | exact P8.out (by simpa using h)), (fun _ => rfl), (fun h => by first | rfl | exact P10.out (by simpa using h)), (fun h => by first | rfl | exact P11.out (by simpa using h)), (fun h => by first | rfl | exact P12.out (by simpa using h)), (fun h => by first | rfl | exact P13.out (by simpa using h)), (fun h => by first | rfl | exact P14.out (by simpa using h)), (fun h => by first | rfl | exact P15.out (by simpa using h)), (fun h => by first | rfl | exact P16.out (by simpa using h)), (fun h => by first | rfl | exact P17.out (by simpa using h)), (fun h => by first | rfl | exact P18.out (by simpa using h)), (fun h => by first | rfl | exact P19.out (by simpa using h)), (fun h => by first | rfl | exact P20.out (by simpa using h)), (fun h => by first | rfl | exact P21.out (by simpa using h)), (fun h => by first | rfl | exact P22.out (by simpa using h))⟩
          · simp only [List.getElem?_toArray, List.getElem?_cons_zero, List.getElem?_cons_succ, Option.some.injEq] at ho
            subst ho
            obtain rfl := p9 (hafter ⟨9, .data⟩ (by simp) rfl)
            have P0 := Lib.hid p0
            have P1 := Lib.hid p1
            have P2 := Lib.hid p2
            have P3 := Lib.hid p3
            have P4 := Lib.hid p4
            have P5 := Lib.hid p5
            have P8 := Lib.hid p8
            have P9 := Lib.hid p9
            have P10 := Lib.hid p10
            have P11 := Lib.hid p11
            have P12 := Lib.hid p12
            have P13 := Lib.hid p13
            have P14 := Lib.hid p14
            have P15 := Lib.hid p15
            have P16 := Lib.hid p16
            have P17 := Lib.hid p17
            have P18 := Lib.hid p18
            have P19 := Lib.hid p19
            have P20 := Lib.hid p20
            have P21 := Lib.hid p21
            have P22 := Lib.hid p22
            have HS := Lib.hid hS
            clear hS hLi hafter p0 p1 p2 p3 p4 p5 p8 p9 p10 p11 p12 p13 p14 p15 p16 p17 p18 p19 p20 p21 p22
            simp only [Act.put, List.setIfInBounds_toArray, List.set_cons_zero, List.set_cons_succ]
            go_wp2_with fail
            exact ⟨u106, u107, u108, u109, u110, u111, u112, u113, u114, .bool true, .bool true, u117, u118, u119, u120, u121, u122, u123, u124, u125, u126, u127, u4, by simp only [Act.put, List.setIfInBounds_toArray, List.set_cons_zero, List.set_cons_succ], HS.out, (fun h => by first | rfl | exact P0.out (by simpa using h)), (fun h => by first | rfl | exact P1.out (by simpa using h)), (fun h => by first | rfl | exact P2.out (by simpa using h)), (fun h => by first | rfl | exact P3.out (by simpa using h)), (fun h => by first | rfl | exact P4.out (by simpa using h)), (fun h => by first | rfl | exact P5.out (by simpa using h)), (fun h => by first | rfl | exact P8.out (by simpa using h)), (fun h => by first | rfl | exact P9.out (by simpa using h)), (fun _ => rfl), (fun h => by first | rfl | exact P11.out (by simpa using h)), (fun h => by first | rfl | exact P12.out (by simpa using h)), (fun h => by first | rfl | exact P13.out (by simpa using h)), (fun h => by first | rfl | exact P14.out (by simpa using h)), (fun h => by first | rfl | exact P15.out (by simpa using h)), (fun h => by first | rfl | exact P16.out (by simpa using h)), (fun h => by first | rfl | exact P17.out (by simpa using h)), (fun h => by first | rfl | exact P18.out (by simpa using h)), (fun h => by first | rfl | exact P19.out (by simpa using h)), (fun h => by first | rfl | exact P20.out (by simpa using h)), (fun h => by first | rfl | exact P21.out (by simpa using h)), (fun h => by first | rfl | exact P22.out (by simpa using h))⟩
          · simp only [List.getElem?_toArray, List.getElem?_cons_zero, List.getElem?_cons_succ, Option.some.injEq] at ho
            subst ho
            obtain rfl := p10 (hafter ⟨10, .guard⟩ (by simp) rfl)
            have c0 := (hS.1.cell (p := ⟨wc.heap.size, 0, none⟩) hl_C).trans k_C_0
            have c1 := (hS.1.cell (p := ⟨wc.heap.size, 1, none⟩) hl_C).trans k_C_1
            have c2 := (hS.1.cell (p := ⟨wc.heap.size, 2, none⟩) hl_C).trans k_C_2
            have P0 := Lib.hid p0
            have P1 := Lib.hid p1
            have P2 := Lib.hid p2
            have P3 := Lib.hid p3
            have P4 := Lib.hid p4
            have P5 := Lib.hid p5
            have P8 := Lib.hid p8
            have P9 := Lib.hid p9
            have P10 := Lib.hid p10
            have P11 := Lib.hid p11
            have P12 := Lib.hid p12
            have P13 := Lib.hid p13
            have P14 := Lib.hid p14
            have P15 := Lib.hid p15
            have P16 := Lib.hid p16
            have P17 := Lib.hid p17
            have P18 := Lib.hid p18
            have P19 := Lib.hid p19
            have P20 := Lib.hid p20
            have P21 := Lib.hid p21
            have P22 := Lib.hid p22
            have HS := Lib.hid hS
            clear hS hLi hafter p0 p1 p2 p3 p4 p5 p8 p9 p10 p11 p12 p13 p14 p15 p16 p17 p18 p19 p20 p21 p22
            simp only [Act.put, List.setIfInBounds_toArray, List.set_cons_zero, List.set_cons_succ]
            go_wp2_with fail
            exact ⟨u106, u107, u108, u109, u110, u111, u112, u113, u114, u115, .bool true, .agg #[.bool (decide ((pb).num < 0)), .slice rb (nlen (pb).num.natAbs) cb, .slice rb2 (nlen (pb).den) cb2], u118, u119, u120, u121, u122, u123, u124, u125, u126, u127, u4, by simp only [Act.put, List.setIfInBounds_toArray, List.set_cons_zero, List.set_cons_succ], HS.out, (fun h => by first | rfl | exact P0.out (by simpa using h)), (fun h => by first | rfl | exact P1.out (by simpa using h)), (fun h => by first | rfl | exact P2.out (by simpa using h)), (fun h => by first | rfl | exact P3.out (by simpa using h)), (fun h => by first | rfl | exact P4.out (by simpa using h)), (fun h => by first | rfl | exact P5.out (by simpa using h)), (fun h => by first | rfl | exact P8.out (by simpa using h)), (fun h => by first | rfl | exact P9.out (by simpa using h)), (fun h => by first | rfl | exact P10.out (by simpa using h)), (fun _ => rfl), (fun h => by first | rfl | exact P12.out (by simpa using h)), (fun h => by first | rfl | exact P13.out (by simpa using h)), (fun h => by first | rfl | exact P14.out (by simpa using h)), (fun h => by first | rfl | exact P15.out (by simpa using h)), (fun h => by first | rfl | exact P16.out (by simpa using h)), (fun h => by first | rfl | exact P17.out (by simpa using h)), (fun h => by first | rfl | exact P18.out (by simpa using h)), (fun h => by first | rfl | exact P19.out (by simpa using h)), (fun h => by first | rfl | exact P20.out (by simpa using h)), (fun h => by first | rfl | exact P21.out (by simpa using h)), (fun h => by first | rfl | exact P22.out (by simpa using h))⟩
          · simp only [List.getElem?_toArray, List.getElem?_cons_zero, List.getElem?_cons_succ, Option.some.injEq] at ho
            subst ho
            obtain rfl := p10 (hafter ⟨10, .guard⟩ (by simp) rfl)
            have P0 := Lib.hid p0
            have P1 := Lib.hid p1
            have P2 := Lib.hid p2
            have P3 := Lib.hid p3
            have P4 := Lib.hid p4
            have P5 := Lib.hid p5
            have P8 := Lib.hid p8
            have P9 := Lib.hid p9
            have P10 := Lib.hid p10
            have P11 := Lib.hid p11
            have P12 := Lib.hid p12
            have P13 := Lib.hid p13
            have P14 := Lib.hid p14
            have P15 := Lib.hid p15
            have P16 := Lib.hid p16
            have P17 := Lib.hid p17
            have P18 := Lib.hid p18
            have P19 := Lib.hid p19
            have P20 := Lib.hid p20
            have P21 := Lib.hid p21
            have P22 := Lib.hid p22
            have HS := Lib.hid hS
            clear hS hLi hafter p0 p1 p2 p3 p4 p5 p8 p9 p10 p11 p12 p13 p14 p15 p16 p17 p18 p19 p20 p21 p22
            simp only [Act.put, List.setIfInBounds_toArray, List.set_cons_zero, List.set_cons_succ]
            go_wp2_with fail
            exact ⟨u106, u107, u108, u109, u110, u111, u112, u113, u114, u115, .bool true, u117, .slice (some ⟨b0, o0, none⟩) j cap, u119, u120, u121, u122, u123, u124, u125, u126, u127, u4, by simp only [Act.put, List.setIfInBounds_toArray, List.set_cons_zero, List.set_cons_succ], HS.out, (fun h => by first | rfl | exact P0.out (by simpa using h)), (fun h => by first | rfl | exact P1.out (by simpa using h)), (fun h => by first | rfl | exact P2.out (by simpa using h)), (fun h => by first | rfl | exact P3.out (by simpa using h)), (fun h => by first | rfl | exact P4.out (by simpa using h)), (fun h => by first | rfl | exact P5.out (by simpa using h)), (fun h => by first | rfl | exact P8.out (by simpa using h)), (fun h => by first | rfl | exact P9.out (by simpa using h)), (fun h => by first | rfl | exact P10.out (by simpa using h)), (fun h => by first | rfl | exact P11.out (by simpa using h)), (fun _ => rfl), (fun h => by first | rfl | exact P13.out (by simpa using h)), (fun h => by first | rfl | exact P14.out (by simpa using h)), (fun h => by first | rfl | exact P15.out (by simpa using h)), (fun h => by first | rfl | exact P16.out (by simpa using h)), (fun h => by first | rfl | exact P17.out (by simpa using h)), (fun h => by first | rfl | exact P18.out (by simpa using h)), (fun h => by first | rfl | exact P19.out (by simpa using h)), (fun h => by first | rfl | exact P20.out (by simpa using h)), (fun h => by first | rfl | exact P21.out (by simpa using h)), (fun h => by first | rfl | exact P22.out (by simpa using h))⟩
          · simp only [List.getElem?_toArray, List.getElem?_cons_zero, List.getElem?_cons_succ, Option.some.injEq] at ho
            subst ho
            obtain rfl := p10 (hafter ⟨10, .guard⟩ (by simp) rfl)
            have P0 := Lib.hid p0
            have P1 := Lib.hid p1
            have P2 := Lib.hid p2
            have P3 := Lib.hid p3
            have P4 := Lib.hid p4
            have P5 := Lib.hid p5
            have P8 := Lib.hid p8
            have P9 := Lib.hid p9
            have P10 := Lib.hid p10
            have P11 := Lib.hid p11
            have P12 := Lib.hid p12
            have P13 := Lib.hid p13
            have P14 := Lib.hid p14
            have P15 := Lib.hid p15
            have P16 := Lib.hid p16
            have P17 := Lib.hid p17
            have P18 := Lib.hid p18
            have P19 := Lib.hid p19
            have P20 := Lib.hid p20
            have P21 := Lib.hid p21
            have P22 := Lib.hid p22
            have HS := Lib.hid hS
            clear hS hLi hafter p0 p1 p2 p3 p4 p5 p8 p9 p10 p11 p12 p13 p14 p15 p16 p17 p18 p19 p20 p21 p22
            simp only [Act.put, List.setIfInBounds_toArray, List.set_cons_zero, List.set_cons_succ]
            go_wp2_with fail
            exact ⟨u106, u107, u108, u109, u110, u111, u112, u113, u114, u115, .bool true, u117, u118, .int .u8 k, u120, u121, u122, u123, u124, u125, u126, u127, u4, by simp only [Act.put, List.setIfInBounds_toArray, List.set_cons_zero, List.set_cons_succ], HS.out, (fun h => by first | rfl | exact P0.out (by simpa using h)), (fun h => by first | rfl | exact P1.out (by simpa using h)), (fun h => by first | rfl | exact P2.out (by simpa using h)), (fun h => by first | rfl | exact P3.out (by simpa using h)), (fun h => by first | rfl | exact P4.out (by simpa using h)), (fun h => by first | rfl | exact P5.out (by simpa using h)), (fun h => by first | rfl | exact P8.out (by simpa using h)), (fun h => by first | rfl | exact P9.out (by simpa using h)), (fun h => by first | rfl | exact P10.out (by simpa using h)), (fun h => by first | rfl | exact P11.out (by simpa using h)), (fun h => by first | rfl | exact P12.out (by simpa using h)), (fun _ => rfl), (fun h => by first | rfl | exact P14.out (by simpa using h)), (fun h => by first | rfl | exact P15.out (by simpa using h)), (fun h => by first | rfl | exact P16.out (by simpa using h)), (fun h => by first | rfl | exact P17.out (by simpa using h)), (fun h => by first | rfl | exact P18.out (by simpa using h)), (fun h => by first | rfl | exact P19.out (by simpa using h)), (fun h => by first | rfl | exact P20.out (by simpa using h)), (fun h => by first | rfl | exact P21.out (by simpa using h)), (fun h => by first | rfl | exact P22.out (by simpa using h))⟩
          · simp only [List.getElem?_toArray, List.getElem?_cons_zero, List.getElem?_cons_succ, Option.some.injEq] at ho
            subst ho
            obtain rfl := p12 (hafter ⟨12, .data⟩ (by simp) rfl)
            obtain rfl := p13 (hafter ⟨13, .data⟩ (by simp) rfl)
            obtain rfl := p10 (hafter ⟨10, .guard⟩ (by simp) rfl)
            have P0 := Lib.hid p0
            have P1 := Lib.hid p1
            have P2 := Lib.hid p2
            have P3 := Lib.hid p3
            have P4 := Lib.hid p4
            have P5 := Lib.hid p5
            have P8 := Lib.hid p8
            have P9 := Lib.hid p9
            have P10 := Lib.hid p10
            have P11 := Lib.hid p11
            have P12 := Lib.hid p12
            have P13 := Lib.hid p13
            have P14 := Lib.hid p14
            have P15 := Lib.hid p15
            have P16 := Lib.hid p16
            have P17 := Lib.hid p17
            have P18 := Lib.hid p18
            have P19 := Lib.hid p19
            have P20 := Lib.hid p20
            have P21 := Lib.hid p21
            have P22 := Lib.hid p22
            have HS := Lib.hid hS
            clear hS hLi hafter p0 p1 p2 p3 p4 p5 p8 p9 p10 p11 p12 p13 p14 p15 p16 p17 p18 p19 p20 p21 p22
            simp only [Act.put, List.setIfInBounds_toArray, List.set_cons_zero, List.set_cons_succ]
            go_wp2_with fail
            exact ⟨u106, u107, u108, u109, u110, u111, u112, u113, u114, u115, .bool true, u117, .slice (some ⟨b0, o0, none⟩) j cap, .int .u8 k, .pointer (some ⟨b0, o0 + k * 3, none⟩), u121, u122, u123, u124, u125, u126, u127, u4, by simp only [Act.put, List.setIfInBounds_toArray, List.set_cons_zero, List.set_cons_succ], HS.out, (fun h => by first | rfl | exact P0.out (by simpa using h)), (fun h => by first | rfl | exact P1.out (by simpa using h)), (fun h => by first | rfl | exact P2.out (by simpa using h)), (fun h => by first | rfl | exact P3.out (by simpa using h)), (fun h => by first | rfl | exact P4.out (by simpa using h)), (fun h => by first | rfl | exact P5.out (by simpa using h)), (fun h => by first | rfl | exact P8.out (by simpa using h)), (fun h => by first | rfl | exact P9.out (by simpa using h)), (fun h => by first | rfl | exact P10.out (by simpa using h)), (fun h => by first | rfl | exact P11.out (by simpa using h)), (fun h => by first | rfl | exact P12.out (by simpa using h)), (fun h => by first | rfl | exact P13.out (by simpa using h)), (fun _ => rfl), (fun h => by first | rfl | exact P15.out (by simpa using h)), (fun h => by first | rfl | exact P16.out (by simpa using h)), (fun h => by first | rfl | exact P17.out (by simpa using h)), (fun h => by first | rfl | exact P18.out (by simpa using h)), (fun h => by first | rfl | exact P19.out (by simpa using h)), (fun h => by first | rfl | exact P20.out (by simpa using h)), (fun h => by first | rfl | exact P21.out (by simpa using h)), (fun h => by first | rfl | exact P22.out (by simpa using h))⟩
          · simp only [List.getElem?_toArray, List.getElem?_cons_zero, List.getElem?_cons_succ, Option.some.injEq] at ho
            subst ho
            obtain rfl := p14 (hafter ⟨14, .data⟩ (by simp) rfl)
            obtain rfl := p10 (hafter ⟨10, .guard⟩ (by simp) rfl)
            have c0 := (hS.1.cell (p := ⟨b0, o0 + k * 3, none⟩) hlb).trans g0
            have c1 := (hS.1.cell (p := ⟨b0, o0 + k * 3 + 1, none⟩) hlb).trans g1
            have c2 := (hS.1.cell (p := ⟨b0, o0 + k * 3 + 2, none⟩) hlb).trans g2
            have P0 := Lib.hid p0
            have P1 := Lib.hid p1
            have P2 := Lib.hid p2
            have P3 := Lib.hid p3
            have P4 := Lib.hid p4
            have P5 := Lib.hid p5
            have P8 := Lib.hid p8
            have P9 := Lib.hid p9
            have P10 := Lib.hid p10
            have P11 := Lib.hid p11
            have P12 := Lib.hid p12
            have P13 := Lib.hid p13
            have P14 := Lib.hid p14
            have P15 := Lib.hid p15
            have P16 := Lib.hid p16
            have P17 := Lib.hid p17
            have P18 := Lib.hid p18
            have P19 := Lib.hid p19
            have P20 := Lib.hid p20
            have P21 := Lib.hid p21
            have P22 := Lib.hid p22
            have HS := Lib.hid hS
            clear hS hLi hafter p0 p1 p2 p3 p4 p5 p8 p9 p10 p11 p12 p13 p14 p15 p16 p17 p18 p19 p20 p21 p22
            simp only [Act.put, List.setIfInBounds_toArray, List.set_cons_zero, List.set_cons_succ]
            go_wp2_with fail
            exact ⟨u106, u107, u108, u109, u110, u111, u112, u113, u114, u115, .bool true, u117, u118, u119, .pointer (some ⟨b0, o0 + k * 3, none⟩), .agg #[.bool s, .slice ra rn rc, .slice da dn dc], u122, u123, u124, u125, u126, u127, u4, by simp only [Act.put, List.setIfInBounds_toArray, List.set_cons_zero, List.set_cons_succ], HS.out, (fun h => by first | rfl | exact P0.out (by simpa using h)), (fun h => by first | rfl | exact P1.out (by simpa using h)), (fun h => by first | rfl | exact P2.out (by simpa using h)), (fun h => by first | rfl | exact P3.out (by simpa using h)), (fun h => by first | rfl | exact P4.out (by simpa using h)), (fun h => by first | rfl | exact P5.out (by simpa using h)), (fun h => by first | rfl | exact P8.out (by simpa using h)), (fun h => by first | rfl | exact P9.out (by simpa using h)), (fun h => by first | rfl | exact P10.out (by simpa using h)), (fun h => by first | rfl | exact P11.out (by simpa using h)), (fun h => by first | rfl | exact P12.out (by simpa using h)), (fun h => by first | rfl | exact P13.out (by simpa using h)), (fun h => by first | rfl | exact P14.out (by simpa using h)), (fun _ => rfl), (fun h => by first | rfl | exact P16.out (by simpa using h)), (fun h => by first | rfl | exact P17.out (by simpa using h)), (fun h => by first | rfl | exact P18.out (by simpa using h)), (fun h => by first | rfl | exact P19.out (by simpa using h)), (fun h => by first | rfl | exact P20.out (by simpa using h)), (fun h => by first | rfl | exact P21.out (by simpa using h)), (fun h => by first | rfl | exact P22.out (by simpa using h))⟩
          · simp only [List.getElem?_toArray, List.getElem?_cons_zero, List.getElem?_cons_succ, Option.some.injEq] at ho
            subst ho
            obtain rfl := p11 (hafter ⟨11, .data⟩ (by simp) rfl)
            obtain rfl := p15 (hafter ⟨15, .data⟩ (by simp) rfl)
            obtain rfl := p10 (hafter ⟨10, .guard⟩ (by simp) rfl)
            have P0 := Lib.hid p0
            have P1 := Lib.hid p1
            have P2 := Lib.hid p2
            have P3 := Lib.hid p3
            have P4 := Lib.hid p4
            have P5 := Lib.hid p5
            have P8 := Lib.hid p8
            have P9 := Lib.hid p9
            have P10 := Lib.hid p10
            have P11 := Lib.hid p11
            have P12 := Lib.hid p12
            have P13 := Lib.hid p13
            have P14 := Lib.hid p14
            have P15 := Lib.hid p15
            have P16 := Lib.hid p16
            have P17 := Lib.hid p17
            have P18 := Lib.hid p18
            have P19 := Lib.hid p19
            have P20 := Lib.hid p20
            have P21 := Lib.hid p21
            have P22 := Lib.hid p22
            have HS := Lib.hid hS
            clear hS hLi hafter p0 p1 p2 p3 p4 p5 p8 p9 p10 p11 p12 p13 p14 p15 p16 p17 p18 p19 p20 p21 p22
            simp only [Act.put, List.setIfInBounds_toArray, List.set_cons_zero, List.set_cons_succ]
            go_wp2_with fail
            refine (rcmp_x (N := N) _ _ _ _ _ _ _ _ _ _ _ _ _ _ (L * 125 + 9) L pb (q k) _ (by have := HS.out.2; omega) (Rt.of_norm (HC1.out.below HS.out.1) (HC2.out.below HS.out.1) _ HZb.out) (HRk.out.below HS.out.1) (by omega) (by omega) κ2 HKB.out).mono ?_
            rintro e wn ⟨rfl, hb⟩
            have Hb := Lib.hid hb
            clear hb
            go_wp2_with fail
            exact ⟨u106, u107, u108, u109, u110, u111, u112, u113, u114, u115, .bool true, .agg #[.bool (decide ((pb).num < 0)), .slice rb (nlen (pb).num.natAbs) cb, .slice rb2 (nlen (pb).den) cb2], u118, u119, u120, .agg #[.bool s, .slice ra rn rc, .slice da dn dc], .int .i64 κ2, u123, u124, u125, u126, u127, u4, by simp only [Act.put, List.setIfInBounds_toArray, List.set_cons_zero, List.set_cons_succ], HS.out.below Hb.out, (fun h => by first | rfl | exact P0.out (by simpa using h)), (fun h => by first | rfl | exact P1.out (by simpa using h)), (fun h => by first | rfl | exact P2.out (by simpa using h)), (fun h => by first | rfl | exact P3.out (by simpa using h)), (fun h => by first | rfl | exact P4.out (by simpa using h)), (fun h => by first | rfl | exact P5.out (by simpa using h)), (fun h => by first | rfl | exact P8.out (by simpa using h)), (fun h => by first | rfl | exact P9.out (by simpa using h)), (fun h => by first | rfl | exact P10.out (by simpa using h)), (fun h => by first | rfl | exact P11.out (by simpa using h)), (fun h => by first | rfl | exact P12.out (by simpa using h)), (fun h => by first | rfl | exact P13.out (by simpa using h)), (fun h => by first | rfl | exact P14.out (by simpa using h)), (fun h => by first | rfl | exact P15.out (by simpa using h)), (fun _ => rfl), (fun h => by first | rfl | exact P17.out (by simpa using h)), (fun h => by first | rfl | exact P18.out (by simpa using h)), (fun h => by first | rfl | exact P19.out (by simpa using h)), (fun h => by first | rfl | exact P20.out (by simpa using h)), (fun h => by first | rfl | exact P21.out (by simpa using h)), (fun h => by first | rfl | exact P22.out (by simpa using h))⟩
          · simp only [List.getElem?_toArray, List.getElem?_cons_zero, List.getElem?_cons_succ, Option.some.injEq] at ho
            subst ho
            obtain rfl := p16 (hafter ⟨16, .data⟩ (by simp) rfl)
            obtain rfl := p10 (hafter ⟨10, .guard⟩ (by simp) rfl)
            have P0 := Lib.hid p0
            have P1 := Lib.hid p1
            have P2 := Lib.hid p2
            have P3 := Lib.hid p3
            have P4 := Lib.hid p4
            have P5 := Lib.hid p5
            have P8 := Lib.hid p8
            have P9 := Lib.hid p9
            have P10 := Lib.hid p10
            have P11 := Lib.hid p11
            have P12 := Lib.hid p12
            have P13 := Lib.hid p13
            have P14 := Lib.hid p14
            have P15 := Lib.hid p15
            have P16 := Lib.hid p16
            have P17 := Lib.hid p17
            have P18 := Lib.hid p18
            have P19 := Lib.hid p19
            have P20 := Lib.hid p20
            have P21 := Lib.hid p21
            have P22 := Lib.hid p22
            have HS := Lib.hid hS
            clear hS hLi hafter p0 p1 p2 p3 p4 p5 p8 p9 p10 p11 p12 p13 p14 p15 p16 p17 p18 p19 p20 p21 p22
            simp only [Act.put, List.setIfInBounds_toArray, List.set_cons_zero, List.set_cons_succ]
            go_wp2_with fail
            exact ⟨u106, u107, u108, u109, u110, u111, u112, u113, u114, u115, .bool true, u117, u118, u119, u120, u121, .int .i64 κ2, .bool true, u124, u125, u126, u127, u4, by simp only [Act.put, List.setIfInBounds_toArray, List.set_cons_zero, List.set_cons_succ], HS.out, (fun h => by first | rfl | exact P0.out (by simpa using h)), (fun h => by first | rfl | exact P1.out (by simpa using h)), (fun h => by first | rfl | exact P2.out (by simpa using h)), (fun h => by first | rfl | exact P3.out (by simpa using h)), (fun h => by first | rfl | exact P4.out (by simpa using h)), (fun h => by first | rfl | exact P5.out (by simpa using h)), (fun h => by first | rfl | exact P8.out (by simpa using h)), (fun h => by first | rfl | exact P9.out (by simpa using h)), (fun h => by first | rfl | exact P10.out (by simpa using h)), (fun h => by first | rfl | exact P11.out (by simpa using h)), (fun h => by first | rfl | exact P12.out (by simpa using h)), (fun h => by first | rfl | exact P13.out (by simpa using h)), (fun h => by first | rfl | exact P14.out (by simpa using h)), (fun h => by first | rfl | exact P15.out (by simpa using h)), (fun h => by first | rfl | exact P16.out (by simpa using h)), (fun _ => rfl), (fun h => by first | rfl | exact P18.out (by simpa using h)), (fun h => by first | rfl | exact P19.out (by simpa using h)), (fun h => by first | rfl | exact P20.out (by simpa using h)), (fun h => by first | rfl | exact P21.out (by simpa using h)), (fun h => by first | rfl | exact P22.out (by simpa using h))⟩
          · simp only [List.getElem?_toArray, List.getElem?_cons_zero, List.getElem?_cons_succ, Option.some.injEq] at ho
            subst ho
            obtain rfl := p10 (hafter ⟨10, .data⟩ (by simp) rfl)
            obtain rfl := p17 (hafter ⟨17, .data⟩ (by simp) rfl)
            have P0 := Lib.hid p0
            have P1 := Lib.hid p1
            have P2 := Lib.hid p2
            have P3 := Lib.hid p3
            have P4 := Lib.hid p4
            have P5 := Lib.hid p5
            have P8 := Lib.hid p8
            have P9 := Lib.hid p9
            have P10 := Lib.hid p10
            have P11 := Lib.hid p11
            have P12 := Lib.hid p12
            have P13 := Lib.hid p13
            have P14 := Lib.hid p14
            have P15 := Lib.hid p15
            have P16 := Lib.hid p16
            have P17 := Lib.hid p17
            have P18 := Lib.hid p18
            have P19 := Lib.hid p19
            have P20 := Lib.hid p20
            have P21 := Lib.hid p21
            have P22 := Lib.hid p22
            have HS := Lib.hid hS
            clear hS hLi hafter p0 p1 p2 p3 p4 p5 p8 p9 p10 p11 p12 p13 p14 p15 p16 p17 p18 p19 p20 p21 p22
            simp only [Act.put, List.setIfInBounds_toArray, List.set_cons_zero, List.set_cons_succ]
            go_wp2_with fail
            exact ⟨u106, u107, u108, u109, u110, u111, u112, u113, u114, u115, .bool true, u117, u118, u119, u120, u121, u122, .bool true, .bool true, u125, u126, u127, u4, by simp only [Act.put, List.setIfInBounds_toArray, List.set_cons_zero, List.set_cons_succ], HS.out, (fun h => by first | rfl | exact P0.out (by simpa using h)), (fun h => by first | rfl | exact P1.out (by simpa using h)), (fun h => by first | rfl | exact P2.out (by simpa using h)), (fun h => by first | rfl | exact P3.out (by simpa using h)), (fun h => by first | rfl | exact P4.out (by simpa using h)), (fun h => by first | rfl | exact P5.out (by simpa using h)), (fun h => by first | rfl | exact P8.out (by simpa using h)), (fun h => by first | rfl | exact P9.out (by simpa using h)), (fun h => by first | rfl | exact P10.out (by simpa using h)), (fun h => by first | rfl | exact P11.out (by simpa using h)), (fun h => by first | rfl | exact P12.out (by simpa using h)), (fun h => by first | rfl | exact P13.out (by simpa using h)), (fun h => by first | rfl | exact P14.out (by simpa using h)), (fun h => by first | rfl | exact P15.out (by simpa using h)), (fun h => by first | rfl | exact P16.out (by simpa using h)), (fun h => by first | rfl | exact P17.out (by simpa using h)), (fun _ => rfl), (fun h => by first | rfl | exact P19.out (by simpa using h)), (fun h => by first | rfl | exact P20.out (by simpa using h)), (fun h => by first | rfl | exact P21.out (by simpa using h)), (fun h => by first | rfl | exact P22.out (by simpa using h))⟩
          · simp only [List.getElem?_toArray, List.getElem?_cons_zero, List.getElem?_cons_succ, Option.some.injEq] at ho
            subst ho
            obtain rfl := p18 (hafter ⟨18, .data⟩ (by simp) rfl)
            have P0 := Lib.hid p0
            have P1 := Lib.hid p1
            have P2 := Lib.hid p2
            have P3 := Lib.hid p3
            have P4 := Lib.hid p4
            have P5 := Lib.hid p5
            have P8 := Lib.hid p8
            have P9 := Lib.hid p9
            have P10 := Lib.hid p10
            have P11 := Lib.hid p11
            have P12 := Lib.hid p12
            have P13 := Lib.hid p13
            have P14 := Lib.hid p14
            have P15 := Lib.hid p15
            have P16 := Lib.hid p16
            have P17 := Lib.hid p17
            have P18 := Lib.hid p18
            have P19 := Lib.hid p19
            have P20 := Lib.hid p20
            have P21 := Lib.hid p21
            have P22 := Lib.hid p22
            have HS := Lib.hid hS
            clear hS hLi hafter p0 p1 p2 p3 p4 p5 p8 p9 p10 p11 p12 p13 p14 p15 p16 p17 p18 p19 p20 p21 p22
            simp only [Act.put, List.setIfInBounds_toArray, List.set_cons_zero, List.set_cons_succ]
            go_wp2_with fail
            exact ⟨u106, u107, u108, u109, u110, u111, u112, u113, u114, u115, u116, u117, u118, u119, u120, u121, u122, u123, .bool true, .bool true, u126, u127, u4, by simp only [Act.put, List.setIfInBounds_toArray, List.set_cons_zero, List.set_cons_succ], HS.out, (fun h => by first | rfl | exact P0.out (by simpa using h)), (fun h => by first | rfl | exact P1.out (by simpa using h)), (fun h => by first | rfl | exact P2.out (by simpa using h)), (fun h => by first | rfl | exact P3.out (by simpa using h)), (fun h => by first | rfl | exact P4.out (by simpa using h)), (fun h => by first | rfl | exact P5.out (by simpa using h)), (fun h => by first | rfl | exact P8.out (by simpa using h)), (fun h => by first | rfl | exact P9.out (by simpa using h)), (fun h => by first | rfl | exact P10.out (by simpa using h)), (fun h => by first | rfl | exact P11.out (by simpa using h)), (fun h => by first | rfl | exact P12.out (by simpa using h)), (fun h => by first | rfl | exact P13.out (by simpa using h)), (fun h => by first | rfl | exact P14.out (by simpa using h)), (fun h => by first | rfl | exact P15.out (by simpa using h)), (fun h => by first | rfl | exact P16.out (by simpa using h)), (fun h => by first | rfl | exact P17.out (by simpa using h)), (fun h => by first | rfl | exact P18.out (by simpa using h)), (fun _ => rfl), (fun h => by first | rfl | exact P20.out (by simpa using h)), (fun h => by first | rfl | exact P21.out (by simpa using h)), (fun h => by first | rfl | exact P22.out (by simpa using h))⟩
          · simp only [List.getElem?_toArray, List.getElem?_cons_zero, List.getElem?_cons_succ, Option.some.injEq] at ho
            subst ho
            obtain rfl := p19 (hafter ⟨19, .guard⟩ (by simp) rfl)
            have P0 := Lib.hid p0
            have P1 := Lib.hid p1
            have P2 := Lib.hid p2
            have P3 := Lib.hid p3
            have P4 := Lib.hid p4
            have P5 := Lib.hid p5
            have P8 := Lib.hid p8
            have P9 := Lib.hid p9
            have P10 := Lib.hid p10
            have P11 := Lib.hid p11
            have P12 := Lib.hid p12
            have P13 := Lib.hid p13
            have P14 := Lib.hid p14
            have P15 := Lib.hid p15
            have P16 := Lib.hid p16
            have P17 := Lib.hid p17
            have P18 := Lib.hid p18
            have P19 := Lib.hid p19
            have P20 := Lib.hid p20
            have P21 := Lib.hid p21
            have P22 := Lib.hid p22
            have HS := Lib.hid hS
            clear hS hLi hafter p0 p1 p2 p3 p4 p5 p8 p9 p10 p11 p12 p13 p14 p15 p16 p17 p18 p19 p20 p21 p22
            simp only [Act.put, List.setIfInBounds_toArray, List.set_cons_zero, List.set_cons_succ]
            go_wp2_with fail
            refine (awake_any (N := N) _ (by have := HS.out.2; omega) (HT.out.below HS.out.1)).mono ?_
            rintro e wn ⟨rfl, hb⟩
            have Hb := Lib.hid hb
            clear hb
            go_wp2_with fail
            exact ⟨u106, u107, u108, u109, u110, u111, u112, u113, u114, u115, u116, u117, u118, u119, u120, u121, u122, u123, u124, .bool true, .bool true, u127, u4, by simp only [Act.put, List.setIfInBounds_toArray, List.set_cons_zero, List.set_cons_succ], HS.out.below Hb.out, (fun h => by first | rfl | exact P0.out (by simpa using h)), (fun h => by first | rfl | exact P1.out (by simpa using h)), (fun h => by first | rfl | exact P2.out (by simpa using h)), (fun h => by first | rfl | exact P3.out (by simpa using h)), (fun h => by first | rfl | exact P4.out (by simpa using h)), (fun h => by first | rfl | exact P5.out (by simpa using h)), (fun h => by first | rfl | exact P8.out (by simpa using h)), (fun h => by first | rfl | exact P9.out (by simpa using h)), (fun h => by first | rfl | exact P10.out (by simpa using h)), (fun h => by first | rfl | exact P11.out (by simpa using h)), (fun h => by first | rfl | exact P12.out (by simpa using h)), (fun h => by first | rfl | exact P13.out (by simpa using h)), (fun h => by first | rfl | exact P14.out (by simpa using h)), (fun h => by first | rfl | exact P15.out (by simpa using h)), (fun h => by first | rfl | exact P16.out (by simpa using h)), (fun h => by first | rfl | exact P17.out (by simpa using h)), (fun h => by first | rfl | exact P18.out (by simpa using h)), (fun h => by first | rfl | exact P19.out (by simpa using h)), (fun _ => rfl), (fun h => by first | rfl | exact P21.out (by simpa using h)), (fun h => by first | rfl | exact P22.out (by simpa using h))⟩
          · simp only [List.getElem?_toArray, List.getElem?_cons_zero, List.getElem?_cons_succ, Option.some.injEq] at ho
            subst ho
            obtain rfl := p19 (hafter ⟨19, .data⟩ (by simp) rfl)
            obtain rfl := p20 (hafter ⟨20, .data⟩ (by simp) rfl)
            have P0 := Lib.hid p0
            have P1 := Lib.hid p1
            have P2 := Lib.hid p2
            have P3 := Lib.hid p3
            have P4 := Lib.hid p4
            have P5 := Lib.hid p5
            have P8 := Lib.hid p8
            have P9 := Lib.hid p9
            have P10 := Lib.hid p10
            have P11 := Lib.hid p11
            have P12 := Lib.hid p12
            have P13 := Lib.hid p13
            have P14 := Lib.hid p14
            have P15 := Lib.hid p15
            have P16 := Lib.hid p16
            have P17 := Lib.hid p17
            have P18 := Lib.hid p18
            have P19 := Lib.hid p19
            have P20 := Lib.hid p20
            have P21 := Lib.hid p21
            have P22 := Lib.hid p22
            have HS := Lib.hid hS
            clear hS hLi hafter p0 p1 p2 p3 p4 p5 p8 p9 p10 p11 p12 p13 p14 p15 p16 p17 p18 p19 p20 p21 p22
            simp only [Act.put, List.setIfInBounds_toArray, List.set_cons_zero, List.set_cons_succ]
            go_wp2_with fail
            exact ⟨u106, u107, u108, u109, u110, u111, u112, u113, u114, u115, u116, u117, u118, u119, u120, u121, u122, u123, u124, .bool true, .bool true, .bool true, u4, by simp only [Act.put, List.setIfInBounds_toArray, List.set_cons_zero, List.set_cons_succ], HS.out, (fun h => by first | rfl | exact P0.out (by simpa using h)), (fun h => by first | rfl | exact P1.out (by simpa using h)), (fun h => by first | rfl | exact P2.out (by simpa using h)), (fun h => by first | rfl | exact P3.out (by simpa using h)), (fun h => by first | rfl | exact P4.out (by simpa using h)), (fun h => by first | rfl | exact P5.out (by simpa using h)), (fun h => by first | rfl | exact P8.out (by simpa using h)), (fun h => by first | rfl | exact P9.out (by simpa using h)), (fun h => by first | rfl | exact P10.out (by simpa using h)), (fun h => by first | rfl | exact P11.out (by simpa using h)), (fun h => by first | rfl | exact P12.out (by simpa using h)), (fun h => by first | rfl | exact P13.out (by simpa using h)), (fun h => by first | rfl | exact P14.out (by simpa using h)), (fun h => by first | rfl | exact P15.out (by simpa using h)), (fun h => by first | rfl | exact P16.out (by simpa using h)), (fun h => by first | rfl | exact P17.out (by simpa using h)), (fun h => by first | rfl | exact P18.out (by simpa using h)), (fun h => by first | rfl | exact P19.out (by simpa using h)), (fun h => by first | rfl | exact P20.out (by simpa using h)), (fun _ => rfl), (fun h => by first | rfl | exact P22.out (by simpa using h))⟩
          · simp only [List.getElem?_toArray, List.getElem?_cons_zero, List.getElem?_cons_succ, Option.some.injEq] at ho
            subst ho
            obtain rfl := p21 (hafter ⟨21, .data⟩ (by simp) rfl)
            have P0 := Lib.hid p0
            have P1 := Lib.hid p1
            have P2 := Lib.hid p2
            have P3 := Lib.hid p3
            have P4 := Lib.hid p4
            have P5 := Lib.hid p5
            have P8 := Lib.hid p8
            have P9 := Lib.hid p9
            have P10 := Lib.hid p10
            have P11 := Lib.hid p11
            have P12 := Lib.hid p12
            have P13 := Lib.hid p13
            have P14 := Lib.hid p14
            have P15 := Lib.hid p15
            have P16 := Lib.hid p16
            have P17 := Lib.hid p17
            have P18 := Lib.hid p18
            have P19 := Lib.hid p19
            have P20 := Lib.hid p20
            have P21 := Lib.hid p21
            have P22 := Lib.hid p22
            have HS := Lib.hid hS
            clear hS hLi hafter p0 p1 p2 p3 p4 p5 p8 p9 p10 p11 p12 p13 p14 p15 p16 p17 p18 p19 p20 p21 p22
            simp only [Act.put, List.setIfInBounds_toArray, List.set_cons_zero, List.set_cons_succ]
            go_wp2_with fail
            exact ⟨u106, u107, u108, u109, u110, u111, u112, u113, u114, u115, u116, u117, u118, u119, u120, u121, u122, u123, u124, u125, u126, .bool true, .bool true, by simp only [Act.put, List.setIfInBounds_toArray, List.set_cons_zero, List.set_cons_succ], HS.out, (fun h => by first | rfl | exact P0.out (by simpa using h)), (fun h => by first | rfl | exact P1.out (by simpa using h)), (fun h => by first | rfl | exact P2.out (by simpa using h)), (fun h => by first | rfl | exact P3.out (by simpa using h)), (fun h => by first | rfl | exact P4.out (by simpa using h)), (fun h => by first | rfl | exact P5.out (by simpa using h)), (fun h => by first | rfl | exact P8.out (by simpa using h)), (fun h => by first | rfl | exact P9.out (by simpa using h)), (fun h => by first | rfl | exact P10.out (by simpa using h)), (fun h => by first | rfl | exact P11.out (by simpa using h)), (fun h => by first | rfl | exact P12.out (by simpa using h)), (fun h => by first | rfl | exact P13.out (by simpa using h)), (fun h => by first | rfl | exact P14.out (by simpa using h)), (fun h => by first | rfl | exact P15.out (by simpa using h)), (fun h => by first | rfl | exact P16.out (by simpa using h)), (fun h => by first | rfl | exact P17.out (by simpa using h)), (fun h => by first | rfl | exact P18.out (by simpa using h)), (fun h => by first | rfl | exact P19.out (by simpa using h)), (fun h => by first | rfl | exact P20.out (by simpa using h)), (fun h => by first | rfl | exact P21.out (by simpa using h)), (fun _ => rfl)⟩
        · intro Ls a0 wq hall hJ
          obtain ⟨u106, u107, u108, u109, u110, u111, u112, u113, u114, u115, u116, u117, u118, u119, u120, u121, u122, u123, u124, u125, u126, u127, u4, rfl, hS, p0, p1, p2, p3, p4, p5, p8, p9, p10, p11, p12, p13, p14, p15, p16, p17, p18, p19, p20, p21, p22⟩ := hJ
          replace p0 := p0 (hall 0 (by decide))
          replace p1 := p1 (hall 1 (by decide))
          replace p2 := p2 (hall 2 (by decide))
          replace p3 := p3 (hall 3 (by decide))
          replace p4 := p4 (hall 4 (by decide))
          replace p5 := p5 (hall 5 (by decide))
          replace p8 := p8 (hall 8 (by decide))
          replace p9 := p9 (hall 9 (by decide))
          replace p10 := p10 (hall 10 (by decide))
          replace p11 := p11 (hall 11 (by decide))
          replace p12 := p12 (hall 12 (by decide))
          replace p13 := p13 (hall 13 (by decide))
          replace p14 := p14 (hall 14 (by decide))
          replace p15 := p15 (hall 15 (by decide))
          replace p16 := p16 (hall 16 (by decide))
          replace p17 := p17 (hall 17 (by decide))
          replace p18 := p18 (hall 18 (by decide))
          replace p19 := p19 (hall 19 (by decide))
          replace p20 := p20 (hall 20 (by decide))
          replace p21 := p21 (hall 21 (by decide))
          replace p22 := p22 (hall 22 (by decide))
          subst p22
          have HS := Lib.hid hS
          clear hS p0 p1 p2 p3 p4 p5 p8 p9 p10 p11 p12 p13 p14 p15 p16 p17 p18 p19 p20 p21
          simp only [Act.put, List.setIfInBounds_toArray, List.set_cons_zero, List.set_cons_succ]
          go_wp2_with fail
          go_ret
          exact ⟨rfl, HBf.out.trans ((HB.out.trans (HS.out.1.mono hs0)).mono hsf)⟩
      · have d5 := HD5.out rfl
        clear HD5
        go_region_held3 (fun w' => w'.cell? ⟨wc.heap.size, 0, none⟩ = some (.bool (decide ((pb).num < 0))) ∧ w'.cell? ⟨wc.heap.size, 1, none⟩ = some (.slice rb (nlen (pb).num.natAbs) cb) ∧ w'.cell? ⟨wc.heap.size, 2, none⟩ = some (.slice rb2 (nlen (pb).den) cb2))
          (first | (go_keep; done) | ((try dsimp only); (repeat' apply And.intro) <;> (first | (go_keep; done) | (exact cell_keep_alloc_drew (by first | omega | (simp; omega)) (by first | assumption | go_simp)) | (exact cell_keep_alloc (by first | omega | (simp; omega)) (by first | assumption | go_simp)) | (rw [cell_set2 _ _ _ _ _ _ _ _ (by omega)]; assumption) | (rw [cell_set3 _ _ _ _ _ _ _ _ _ _ (by omega)]; assumption))))
          (first
            | (go_at_call 28; refine (part_any (N := N) 1 1 _ (by exact hN) (by decide) (by decide) po HOne.out).mono ?_; rintro e wg ⟨ax, dx, rfl, hn, hb⟩; replace hb : Below W9.heap.size W9 wg := (by first | exact hb | exact bel_of_drew hb); have HT_wg := Lib.hid (HT.out.below hb); have HA_wg := Lib.hid (HA.out.below hb); have hN_wg : N ≤ wg.heap.size := Nat.le_trans hN hb.size; have hs_wg : W9.heap.size ≤ wg.heap.size := hb.size; have hs0_wg : wf.heap.size ≤ wg.heap.size := Nat.le_trans hs0 hb.size; have hl_C_wg : wc.heap.size < wg.heap.size := Nat.lt_of_lt_of_le hl_C hb.size; have k_C_0_wg : wg.cell? ⟨wc.heap.size, 0, none⟩ = some (.bool (decide ((pb).num < 0))) := (hb.cell (p := ⟨wc.heap.size, 0, none⟩) hl_C).trans k_C_0; have k_C_1_wg : wg.cell? ⟨wc.heap.size, 1, none⟩ = some (.slice rb (nlen (pb).num.natAbs) cb) := (hb.cell (p := ⟨wc.heap.size, 1, none⟩) hl_C).trans k_C_1; have k_C_2_wg : wg.cell? ⟨wc.heap.size, 2, none⟩ = some (.slice rb2 (nlen (pb).den) cb2) := (hb.cell (p := ⟨wc.heap.size, 2, none⟩) hl_C).trans k_C_2; have f_C_wg : ∀ o, wg.frozen? ⟨wc.heap.size, o, none⟩ = false := fun o => (hb.frozen (p := ⟨wc.heap.size, o, none⟩) hl_C).trans (f_C o); have HX_C_wg := Lib.hid (HX_C.out.below hb); have HC1_wg := Lib.hid (HC1.out.below hb); have HC2_wg := Lib.hid (HC2.out.below hb); have HRk_wg := Lib.hid (HRk.out.below hb); have HB_wg := Lib.hid (HB.out.trans (hb.mono hs0)); clear hb; clear hl_C f_C HX_C k_C_0 k_C_1 k_C_2 HC1 HC2 HRk HB hN hs0; have hN := hN_wg; have HB := HB_wg; have hs0 := hs0_wg; have hl_C := hl_C_wg; have f_C := f_C_wg; have HX_C := HX_C_wg; have k_C_0 := k_C_0_wg; have k_C_1 := k_C_1_wg; have k_C_2 := k_C_2_wg; have HC1 := HC1_wg; have HC2 := HC2_wg; have HRk := HRk_wg; clear hN_wg HB_wg hs0_wg hl_C_wg f_C_wg HX_C_wg k_C_0_wg k_C_1_wg k_C_2_wg HC1_wg HC2_wg HRk_wg; clear HT HA; have HT := HT_wg; have HA := HA_wg; clear HT_wg HA_wg; have HQ1 := Lib.hid hn; clear hn; skip)
            | (go_at_call 16; refine (rcmp_x (N := N) _ _ _ _ _ _ _ _ _ _ _ _ _ _ (L * 125 + 9) 1 pb po _ (by exact hN) (by exact Rt.of_norm HC1.out HC2.out _ HZb.out) (by exact HQ1.out) (by omega) (by omega) κ HKA.out).mono ?_; rintro e wh ⟨rfl, hb⟩; replace hb : Below wg.heap.size wg wh := (by first | exact hb | exact bel_of_drew hb); have HT_wh := Lib.hid (HT.out.below hb); have HA_wh := Lib.hid (HA.out.below hb); have hN_wh : N ≤ wh.heap.size := Nat.le_trans hN hb.size; have hs_wh : wg.heap.size ≤ wh.heap.size := hb.size; have hs0_wh : wf.heap.size ≤ wh.heap.size := Nat.le_trans hs0 hb.size; have hl_C_wh : wc.heap.size < wh.heap.size := Nat.lt_of_lt_of_le hl_C hb.size; have k_C_0_wh : wh.cell? ⟨wc.heap.size, 0, none⟩ = some (.bool (decide ((pb).num < 0))) := (hb.cell (p := ⟨wc.heap.size, 0, none⟩) hl_C).trans k_C_0; have k_C_1_wh : wh.cell? ⟨wc.heap.size, 1, none⟩ = some (.slice rb (nlen (pb).num.natAbs) cb) := (hb.cell (p := ⟨wc.heap.size, 1, none⟩) hl_C).trans k_C_1; have k_C_2_wh : wh.cell? ⟨wc.heap.size, 2, none⟩ = some (.slice rb2 (nlen (pb).den) cb2) := (hb.cell (p := ⟨wc.heap.size, 2, none⟩) hl_C).trans k_C_2; have f_C_wh : ∀ o, wh.frozen? ⟨wc.heap.size, o, none⟩ = false := fun o => (hb.frozen (p := ⟨wc.heap.size, o, none⟩) hl_C).trans (f_C o); have HX_C_wh := Lib.hid (HX_C.out.below hb); have HC1_wh := Lib.hid (HC1.out.below hb); have HC2_wh := Lib.hid (HC2.out.below hb); have HRk_wh := Lib.hid (HRk.out.below hb); have HQ1_wh := Lib.hid (HQ1.out.below hb); have HB_wh := Lib.hid (HB.out.trans (hb.mono hs0)); clear hb; clear hl_C f_C HX_C k_C_0 k_C_1 k_C_2 HC1 HC2 HRk HQ1 HB hN hs0; have hN := hN_wh; have HB := HB_wh; have hs0 := hs0_wh; have hl_C := hl_C_wh; have f_C := f_C_wh; have HX_C := HX_C_wh; have k_C_0 := k_C_0_wh; have k_C_1 := k_C_1_wh; have k_C_2 := k_C_2_wh; have HC1 := HC1_wh; have HC2 := HC2_wh; have HRk := HRk_wh; have HQ1 := HQ1_wh; clear hN_wh HB_wh hs0_wh hl_C_wh f_C_wh HX_C_wh k_C_0_wh k_C_1_wh k_C_2_wh HC1_wh HC2_wh HRk_wh HQ1_wh; clear HT HA; have HT := HT_wh; have HA := HA_wh; clear HT_wh HA_wh; skip))
        obtain ⟨b1, o1, e1, hc⟩ := HA.out.2.2 (by omega)
        cases e1
        obtain ⟨s, ra, rn, rc, da, dn, dc, g0, g1, g2, hrk⟩ := hc k hkn
        clear HRk
        have HRk := Lib.hid hrk
        have hlb : b0 < wh.heap.size := World.block_lt_of_cell? wh _ g0
        clear hc hrk
        go_wp2_with fail
        refine region_name fun W10 hW => ?_
        have HL_W10 := Lib.hid (show Below wh.heap.size wh W10 by rw [← hW]; (repeat' (first | with_reducible exact Below.refl _ _ | (with_reducible refine Below.alloc ?_ ?_ _; rotate_left; (focus (first | omega | (simp; done) | (simp; omega)))) | with_reducible apply Below.drew | (with_reducible refine Below.setCell ?_ ?_ _; rotate_left; (focus (first | omega | (simp; done) | (simp; omega)))))))
        have hN_W10 : N ≤ W10.heap.size := by rw [← hW]; (first | omega | (simp; done) | (simp; omega))
        have hs_W10 : wh.heap.size ≤ W10.heap.size := by rw [← hW]; (first | omega | (simp; done) | (simp; omega))
        have hs0_W10 : wf.heap.size ≤ W10.heap.size := by rw [← hW]; (first | omega | (simp; done) | (simp; omega))
        have hl_C_W10 : wc.heap.size < W10.heap.size := by rw [← hW]; (first | omega | (simp; done) | (simp; omega))
        have k_C_0_W10 : W10.cell? ⟨wc.heap.size, 0, none⟩ = some (.bool (decide ((pb).num < 0))) := (HL_W10.out.cell (p := ⟨wc.heap.size, 0, none⟩) hl_C).trans k_C_0
        have k_C_1_W10 : W10.cell? ⟨wc.heap.size, 1, none⟩ = some (.slice rb (nlen (pb).num.natAbs) cb) := (HL_W10.out.cell (p := ⟨wc.heap.size, 1, none⟩) hl_C).trans k_C_1
        have k_C_2_W10 : W10.cell? ⟨wc.heap.size, 2, none⟩ = some (.slice rb2 (nlen (pb).den) cb2) := (HL_W10.out.cell (p := ⟨wc.heap.size, 2, none⟩) hl_C).trans k_C_2
        have f_C_W10 : ∀ o, W10.frozen? ⟨wc.heap.size, o, none⟩ = false := fun o => (HL_W10.out.frozen (p := ⟨wc.heap.size, o, none⟩) hl_C).trans (f_C o)
        have HX_C_W10 := Lib.hid (show Bn W10 (wc.heap.size) by rw [← hW]; (repeat' (first | with_reducible exact Kp.refl _ _ | with_reducible exact HX_C.out | with_reducible apply Kp.alloc | with_reducible apply Kp.drew | (with_reducible refine Kp.put ?_ ?_ ?_ _; rotate_left; (focus (first | omega | (simp; done) | (simp; omega))); rotate_left) | (with_reducible refine Bn.new _ _ _ _ ?_ ?_; (focus (first | omega | (simp; done) | (simp; omega))); decide) | with_reducible apply Bn.alloc | with_reducible apply Bn.drew | with_reducible apply Bn.set)))
        have HK_W10 := Lib.hid (show Kp N wh W10 by rw [← hW]; (repeat' (first | with_reducible exact Kp.refl _ _ | with_reducible exact HX_C.out | with_reducible apply Kp.alloc | with_reducible apply Kp.drew | (with_reducible refine Kp.put ?_ ?_ ?_ _; rotate_left; (focus (first | omega | (simp; done) | (simp; omega))); rotate_left) | (with_reducible refine Bn.new _ _ _ _ ?_ ?_; (focus (first | omega | (simp; done) | (simp; omega))); decide) | with_reducible apply Bn.alloc | with_reducible apply Bn.drew | with_reducible apply Bn.set)))
        have HC1_W10 := Lib.hid (HC1.out.keep HK_W10.out)
        have HC2_W10 := Lib.hid (HC2.out.keep HK_W10.out)
        have HRk_W10 := Lib.hid (HRk.out.keep HK_W10.out)
        have HQ1_W10 := Lib.hid (HQ1.out.keep HK_W10.out)
        have HB_W10 := Lib.hid (show Below wf.heap.size wf W10 by rw [← hW]; (repeat' (first | with_reducible exact Below.refl _ _ | with_reducible exact HB.out | (with_reducible refine Below.alloc ?_ ?_ _; rotate_left; (focus (first | omega | (simp; done) | (simp; omega)))) | with_reducible apply Below.drew | (with_reducible refine Below.setCell ?_ ?_ _; rotate_left; (focus (first | omega | (simp; done) | (simp; omega)))))))
        rw [hW] at g0 g1 g2 hlb
        have HT_W10 := Lib.hid (HT.out.below HL_W10.out)
        have HA_W10 := Lib.hid (HA.out.below HL_W10.out)
        clear HL_W10
        clear hW HK_W10
        clear hl_C f_C HX_C k_C_0 k_C_1 k_C_2 HC1 HC2 HRk HQ1 HB hN hs0
        have hN := hN_W10
        have HB := HB_W10
        have hs0 := hs0_W10
        have hl_C := hl_C_W10
        have f_C := f_C_W10
        have HX_C := HX_C_W10
        have k_C_0 := k_C_0_W10
        have k_C_1 := k_C_1_W10
        have k_C_2 := k_C_2_W10
        have HC1 := HC1_W10
        have HC2 := HC2_W10
        have HRk := HRk_W10
        have HQ1 := HQ1_W10
        clear hN_W10 HB_W10 hs0_W10 hl_C_W10 f_C_W10 HX_C_W10 k_C_0_W10 k_C_1_W10 k_C_2_W10 HC1_W10 HC2_W10 HRk_W10 HQ1_W10
        clear HT HA
        have HT := HT_W10
        have HA := HA_W10
        clear HT_W10 HA_W10
        go_region_held3 (fun w' => w'.cell? ⟨wc.heap.size, 0, none⟩ = some (.bool (decide ((pb).num < 0))) ∧ w'.cell? ⟨wc.heap.size, 1, none⟩ = some (.slice rb (nlen (pb).num.natAbs) cb) ∧ w'.cell? ⟨wc.heap.size, 2, none⟩ = some (.slice rb2 (nlen (pb).den) cb2) ∧ w'.cell? ⟨b0, o0 + k * 3, none⟩ = some (.bool s) ∧ w'.cell? ⟨b0, o0 + k * 3 + 1, none⟩ = some (.slice ra rn rc) ∧ w'.cell? ⟨b0, o0 + k * 3 + 2, none⟩ = some (.slice da dn dc))
          (first | (go_keep; done) | ((try dsimp only); (repeat' apply And.intro) <;> (first | (go_keep; done) | (exact cell_keep_alloc_drew (by first | omega | (simp; omega)) (by first | assumption | go_simp)) | (exact cell_keep_alloc (by first | omega | (simp; omega)) (by first | assumption | go_simp)) | (rw [cell_set2 _ _ _ _ _ _ _ _ (by omega)]; assumption) | (rw [cell_set3 _ _ _ _ _ _ _ _ _ _ (by omega)]; assumption))))
          (first
            | (go_at_call 16; refine (rcmp_x (N := N) _ _ _ _ _ _ _ _ _ _ _ _ _ _ (L * 125 + 9) L pb (q k) _ (by exact hN) (by exact Rt.of_norm HC1.out HC2.out _ HZb.out) (by exact HRk.out) (by omega) (by omega) κ2 HKB.out).mono ?_; rintro e wi ⟨rfl, hb⟩; replace hb : Below W10.heap.size W10 wi := (by first | exact hb | exact bel_of_drew hb); have g0i' : wi.cell? ⟨b0, o0 + k * 3, none⟩ = some (.bool s) := (hb.cell (p := ⟨b0, o0 + k * 3, none⟩) hlb).trans g0; have g1i' : wi.cell? ⟨b0, o0 + k * 3 + 1, none⟩ = some (.slice ra rn rc) := (hb.cell (p := ⟨b0, o0 + k * 3 + 1, none⟩) hlb).trans g1; have g2i' : wi.cell? ⟨b0, o0 + k * 3 + 2, none⟩ = some (.slice da dn dc) := (hb.cell (p := ⟨b0, o0 + k * 3 + 2, none⟩) hlb).trans g2; have hlb2 : b0 < wi.heap.size := Nat.lt_of_lt_of_le hlb hb.size; have HT_wi := Lib.hid (HT.out.below hb); have HA_wi := Lib.hid (HA.out.below hb); have hN_wi : N ≤ wi.heap.size := Nat.le_trans hN hb.size; have hs_wi : W10.heap.size ≤ wi.heap.size := hb.size; have hs0_wi : wf.heap.size ≤ wi.heap.size := Nat.le_trans hs0 hb.size; have hl_C_wi : wc.heap.size < wi.heap.size := Nat.lt_of_lt_of_le hl_C hb.size; have k_C_0_wi : wi.cell? ⟨wc.heap.size, 0, none⟩ = some (.bool (decide ((pb).num < 0))) := (hb.cell (p := ⟨wc.heap.size, 0, none⟩) hl_C).trans k_C_0; have k_C_1_wi : wi.cell? ⟨wc.heap.size, 1, none⟩ = some (.slice rb (nlen (pb).num.natAbs) cb) := (hb.cell (p := ⟨wc.heap.size, 1, none⟩) hl_C).trans k_C_1; have k_C_2_wi : wi.cell? ⟨wc.heap.size, 2, none⟩ = some (.slice rb2 (nlen (pb).den) cb2) := (hb.cell (p := ⟨wc.heap.size, 2, none⟩) hl_C).trans k_C_2; have f_C_wi : ∀ o, wi.frozen? ⟨wc.heap.size, o, none⟩ = false := fun o => (hb.frozen (p := ⟨wc.heap.size, o, none⟩) hl_C).trans (f_C o); have HX_C_wi := Lib.hid (HX_C.out.below hb); have HC1_wi := Lib.hid (HC1.out.below hb); have HC2_wi := Lib.hid (HC2.out.below hb); have HRk_wi := Lib.hid (HRk.out.below hb); have HQ1_wi := Lib.hid (HQ1.out.below hb); have HB_wi := Lib.hid (HB.out.trans (hb.mono hs0)); clear hb; clear hl_C f_C HX_C k_C_0 k_C_1 k_C_2 HC1 HC2 HRk HQ1 HB hN hs0; have hN := hN_wi; have HB := HB_wi; have hs0 := hs0_wi; have hl_C := hl_C_wi; have f_C := f_C_wi; have HX_C := HX_C_wi; have k_C_0 := k_C_0_wi; have k_C_1 := k_C_1_wi; have k_C_2 := k_C_2_wi; have HC1 := HC1_wi; have HC2 := HC2_wi; have HRk := HRk_wi; have HQ1 := HQ1_wi; clear hN_wi HB_wi hs0_wi hl_C_wi f_C_wi HX_C_wi k_C_0_wi k_C_1_wi k_C_2_wi HC1_wi HC2_wi HRk_wi HQ1_wi; clear HT HA; have HT := HT_wi; have HA := HA_wi; clear HT_wi HA_wi; skip)
            | (go_at_call 21; refine (awake_any (N := N) _ (by exact hN) (by exact HT.out)).mono ?_; rintro e wj ⟨rfl, hb⟩; replace hb : Below wi.heap.size wi wj := (by first | exact hb | exact bel_of_drew hb); have g0j' : wj.cell? ⟨b0, o0 + k * 3, none⟩ = some (.bool s) := (hb.cell (p := ⟨b0, o0 + k * 3, none⟩) hlb2).trans g0i'; have g1j' : wj.cell? ⟨b0, o0 + k * 3 + 1, none⟩ = some (.slice ra rn rc) := (hb.cell (p := ⟨b0, o0 + k * 3 + 1, none⟩) hlb2).trans g1i'; have g2j' : wj.cell? ⟨b0, o0 + k * 3 + 2, none⟩ = some (.slice da dn dc) := (hb.cell (p := ⟨b0, o0 + k * 3 + 2, none⟩) hlb2).trans g2i'; have HT_wj := Lib.hid (HT.out.below hb); have HA_wj := Lib.hid (HA.out.below hb); have hN_wj : N ≤ wj.heap.size := Nat.le_trans hN hb.size; have hs_wj : wi.heap.size ≤ wj.heap.size := hb.size; have hs0_wj : wf.heap.size ≤ wj.heap.size := Nat.le_trans hs0 hb.size; have hl_C_wj : wc.heap.size < wj.heap.size := Nat.lt_of_lt_of_le hl_C hb.size; have k_C_0_wj : wj.cell? ⟨wc.heap.size, 0, none⟩ = some (.bool (decide ((pb).num < 0))) := (hb.cell (p := ⟨wc.heap.size, 0, none⟩) hl_C).trans k_C_0; have k_C_1_wj : wj.cell? ⟨wc.heap.size, 1, none⟩ = some (.slice rb (nlen (pb).num.natAbs) cb) := (hb.cell (p := ⟨wc.heap.size, 1, none⟩) hl_C).trans k_C_1; have k_C_2_wj : wj.cell? ⟨wc.heap.size, 2, none⟩ = some (.slice rb2 (nlen (pb).den) cb2) := (hb.cell (p := ⟨wc.heap.size, 2, none⟩) hl_C).trans k_C_2; have f_C_wj : ∀ o, wj.frozen? ⟨wc.heap.size, o, none⟩ = false := fun o => (hb.frozen (p := ⟨wc.heap.size, o, none⟩) hl_C).trans (f_C o); have HX_C_wj := Lib.hid (HX_C.out.below hb); have HC1_wj := Lib.hid (HC1.out.below hb); have HC2_wj := Lib.hid (HC2.out.below hb); have HRk_wj := Lib.hid (HRk.out.below hb); have HQ1_wj := Lib.hid (HQ1.out.below hb); have HB_wj := Lib.hid (HB.out.trans (hb.mono hs0)); clear hb; clear hl_C f_C HX_C k_C_0 k_C_1 k_C_2 HC1 HC2 HRk HQ1 HB hN hs0; have hN := hN_wj; have HB := HB_wj; have hs0 := hs0_wj; have hl_C := hl_C_wj; have f_C := f_C_wj; have HX_C := HX_C_wj; have k_C_0 := k_C_0_wj; have k_C_1 := k_C_1_wj; have k_C_2 := k_C_2_wj; have HC1 := HC1_wj; have HC2 := HC2_wj; have HRk := HRk_wj; have HQ1 := HQ1_wj; clear hN_wj HB_wj hs0_wj hl_C_wj f_C_wj HX_C_wj k_C_0_wj k_C_1_wj k_C_2_wj HC1_wj HC2_wj HRk_wj HQ1_wj; clear HT HA; have HT := HT_wj; have HA := HA_wj; clear HT_wj HA_wj; skip))
        go_wp2_with fail
        go_ret
        exact ⟨rfl, HBf.out.trans (HB.out.mono hsf)⟩

end Go.Proofs.YtbjgnpgachdlaaaDoor
