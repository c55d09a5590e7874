/- The examples of the chapter: law07's awake returns true. The table of powers of ten must lie in memory. -/
import Derived.Test.YtbjgnpgachdlaaaDoorExT
namespace Go.Proofs.YtbjgnpgachdlaaaDoor
open Go.RowKit

theorem rsz_small (q : Rat) (h1 : q.num.natAbs < 4294967296) (h2 : q.den < 4294967296) : rsz q ≤ 1 := by
  have a := nlen_small h1
  have b := nlen_small h2
  unfold rsz; omega
theorem txt_small (q : Rat) (a b : Nat) (h0 : 0 ≤ q.num) (h1 : q.num.natAbs = a) (h2 : q.den = b) (ha : a < 10) (hb : b < 10) (h3 : ¬ b = 1) : Tx q ⟨#[UInt8.ofNat (48 + a), 47, UInt8.ofNat (48 + b)]⟩ := by
  refine ⟨h0, by omega, by omega, ?_⟩
  unfold txt
  rw [h1, h2, if_neg h3, Lib.decDigits_one ha, Lib.decDigits_one hb]; rfl
theorem txt_zero7 : Tx 0 ⟨#[48]⟩ := by
  refine ⟨by decide, by decide, by decide, ?_⟩
  unfold txt
  rw [if_pos (show (0 : Rat).den = 1 from rfl), show (0 : Rat).num.natAbs = 0 from rfl, Lib.decDigits_one (by omega)]; rfl
theorem txt_1736 : Tx (mkRat 17 36) ⟨#[49, 55, 47, 51, 54]⟩ := by
  refine ⟨by decide +kernel, by decide +kernel, by decide +kernel, ?_⟩
  unfold txt
  rw [show (mkRat 17 36).num.natAbs = 17 by decide +kernel, show (mkRat 17 36).den = 36 by decide +kernel, if_neg (by decide), Lib.decDigits_two (by decide) (by decide), Lib.decDigits_two (by decide) (by decide)]; rfl
theorem tx49 : Tx (mkRat 4 9) ⟨#[52, 47, 57]⟩ := txt_small _ 4 9 (by decide +kernel) (by decide +kernel) (by decide +kernel) (by decide) (by decide) (by decide)
theorem tx19 : Tx (mkRat 1 9) ⟨#[49, 47, 57]⟩ := txt_small _ 1 9 (by decide +kernel) (by decide +kernel) (by decide +kernel) (by decide) (by decide) (by decide)
theorem tx23 : Tx (mkRat 2 3) ⟨#[50, 47, 51]⟩ := txt_small _ 2 3 (by decide +kernel) (by decide +kernel) (by decide +kernel) (by decide) (by decide) (by decide)
theorem tx13 : Tx (mkRat 1 3) ⟨#[49, 47, 51]⟩ := txt_small _ 1 3 (by decide +kernel) (by decide +kernel) (by decide +kernel) (by decide) (by decide) (by decide)
theorem tx12 : Tx (mkRat 1 2) ⟨#[49, 47, 50]⟩ := txt_small _ 1 2 (by decide +kernel) (by decide +kernel) (by decide +kernel) (by decide) (by decide) (by decide)
theorem tx16 : Tx (mkRat 1 6) ⟨#[49, 47, 54]⟩ := txt_small _ 1 6 (by decide +kernel) (by decide +kernel) (by decide +kernel) (by decide) (by decide) (by decide)
theorem tx14 : Tx (mkRat 1 4) ⟨#[49, 47, 52]⟩ := txt_small _ 1 4 (by decide +kernel) (by decide +kernel) (by decide +kernel) (by decide) (by decide) (by decide)
theorem tx56 : Tx (mkRat 5 6) ⟨#[53, 47, 54]⟩ := txt_small _ 5 6 (by decide +kernel) (by decide +kernel) (by decide +kernel) (by decide) (by decide) (by decide)
theorem tx18 : Tx (mkRat 1 8) ⟨#[49, 47, 56]⟩ := txt_small _ 1 8 (by decide +kernel) (by decide +kernel) (by decide +kernel) (by decide) (by decide) (by decide)

def hdist (i : Nat) : Rat := if i = 0 then (mkRat 1 8) else if i = 1 then (mkRat 3 8) else if i = 2 then (mkRat 3 8) else (mkRat 1 8)
theorem aw_a : ∀ i, i < 2 + 1 → frq (binN (nuQ1 (frq 1 3)) (faQ1 (frq 1 3)) 2 i) ((frq 1 3).den ^ 2) = (sel3 (mkRat 4 9) (mkRat 4 9) (mkRat 1 9)) i := by decide +kernel
theorem aw_b : ∀ i, i < 3 → frq (hyp 3 2 2 i) (chs 3 2) = (sel3 0 (mkRat 2 3) (mkRat 1 3)) i := by decide +kernel
theorem aw_c : ∀ i, i < 2 + 1 → frq (trN (nuQ (sel3 (frq 1 2) (frq 1 3) 0)) (faQ (sel3 (frq 1 2) (frq 1 3) 0)) 2 i) (prN (deQ (sel3 (frq 1 2) (frq 1 3) 0)) 2) = (sel3 (mkRat 1 3) (mkRat 1 2) (mkRat 1 6)) i := by decide +kernel
theorem aw_cp : ∀ j, j < 2 → prb (sel3 (frq 1 2) (frq 1 3) 0 j) = true := by decide +kernel
theorem aw_d : ∀ k, k < 3 → cnv (sel3 (frq 1 2) (frq 2 4) 0) 2 (sel3 (frq 1 2) (frq 1 2) 0) 2 k = (sel3 (mkRat 1 4) (mkRat 1 2) (mkRat 1 4)) k := by decide +kernel
theorem aw_d1 : valid (sel3 (frq 1 2) (frq 2 4) 0) 2 = true := by decide +kernel
theorem aw_d2 : valid (sel3 (frq 1 2) (frq 1 2) 0) 2 = true := by decide +kernel
theorem aw_v : valid (sel3 (mkRat 1 3) (mkRat 1 2) (mkRat 1 6)) 3 = true := by decide +kernel
theorem aw_nv : valid (sel3 (frq 1 2) (frq 1 3) 0) 2 = false := by decide +kernel
theorem aw_m : meanQ (sel3 (mkRat 1 3) (mkRat 1 2) (mkRat 1 6)) 3 = (mkRat 5 6) := by decide +kernel
theorem aw_s : varQ (sel3 (mkRat 1 3) (mkRat 1 2) (mkRat 1 6)) 3 = (mkRat 17 36) := by decide +kernel
theorem aw_h : ∀ i, i < 3 + 1 → frq (binN (nuQ1 (frq 1 2)) (faQ1 (frq 1 2)) 3 i) ((frq 1 2).den ^ 3) = hdist i := by decide +kernel
theorem aw_hv : valid hdist 4 = true := by decide +kernel
theorem aw_x : upQ hdist 4 2 = (mkRat 1 2) := by decide +kernel
theorem aw_y : sQ hdist 1 = (mkRat 1 8) := by decide +kernel
theorem aw_z : bothQ hdist 4 0 = (mkRat 1 4) := by decide +kernel
theorem aw_hs : ∀ i, i < 4 → (hdist i).num.natAbs < 4294967296 ∧ (hdist i).den < 4294967296 := by decide +kernel
theorem aw_as : ∀ i, i < 3 → ((sel3 (mkRat 4 9) (mkRat 4 9) (mkRat 1 9)) i).num.natAbs < 4294967296 ∧ ((sel3 (mkRat 4 9) (mkRat 4 9) (mkRat 1 9)) i).den < 4294967296 := by decide +kernel
theorem aw_bs : ∀ i, i < 3 → ((sel3 0 (mkRat 2 3) (mkRat 1 3)) i).num.natAbs < 4294967296 ∧ ((sel3 0 (mkRat 2 3) (mkRat 1 3)) i).den < 4294967296 := by decide +kernel
theorem aw_cs : ∀ i, i < 3 → ((sel3 (mkRat 1 3) (mkRat 1 2) (mkRat 1 6)) i).num.natAbs < 4294967296 ∧ ((sel3 (mkRat 1 3) (mkRat 1 2) (mkRat 1 6)) i).den < 4294967296 := by decide +kernel
theorem aw_ds : ∀ i, i < 3 → ((sel3 (mkRat 1 4) (mkRat 1 2) (mkRat 1 4)) i).num.natAbs < 4294967296 ∧ ((sel3 (mkRat 1 4) (mkRat 1 2) (mkRat 1 4)) i).den < 4294967296 := by decide +kernel
theorem sel3_tx {x y z : Rat} {s t u : ByteArray} (h1 : Tx x s) (h2 : Tx y t) (h3 : Tx z u) : ∀ i, i < 3 → Tx (sel3 x y z i) (sel3 s t u i) := by
  intro i hi
  obtain rfl | rfl | rfl : i = 0 ∨ i = 1 ∨ i = 2 := by omega
  · exact h1
  · exact h2
  · exact h3
theorem sel2_tx {x y z : Rat} {s t u : ByteArray} (h1 : Tx x s) (h2 : Tx y t) : ∀ i, i < 2 → Tx (sel3 x y z i) (sel3 s t u i) := by
  intro i hi
  obtain rfl | rfl : i = 0 ∨ i = 1 := by omega
  · exact h1
  · exact h2
theorem pr13 : prb (frq 1 3) = true := by decide +kernel
theorem pr12 : prb (frq 1 2) = true := by decide +kernel
theorem pr21 : prb (frq 2 1) = false := by decide +kernel

set_option maxRecDepth 100000 in
set_option maxHeartbeats 40000000 in
theorem awake_any {N : Nat} (w : World) (hN : N ≤ w.heap.size) (htab : TabW w) :
    Calls Tryd.prog 21 #[] w fun e w' => e = .returned (.bool true) ∧ Below w.heap.size w w' := by
  obtain ⟨pm, hpm⟩ : ∃ p, meanQ (sel3 (mkRat 1 3) (mkRat 1 2) (mkRat 1 6)) 3 = p := ⟨_, rfl⟩
  have HPm := Lib.hid hpm
  have Hzm := Lib.hid (show rsz pm ≤ 1 by rw [← hpm, aw_m]; exact rsz_small _ (by decide +kernel) (by decide +kernel))
  clear hpm
  obtain ⟨pv, hpv⟩ : ∃ p, varQ (sel3 (mkRat 1 3) (mkRat 1 2) (mkRat 1 6)) 3 = p := ⟨_, rfl⟩
  have HPv := Lib.hid hpv
  have Hzv := Lib.hid (show rsz pv ≤ 1 by rw [← hpv, aw_s]; exact rsz_small _ (by decide +kernel) (by decide +kernel))
  clear hpv
  obtain ⟨px, hpx⟩ : ∃ p, upQ hdist 4 2 = p := ⟨_, rfl⟩
  have HPx := Lib.hid hpx
  have Hzx := Lib.hid (show rsz px ≤ 1 by rw [← hpx, aw_x]; exact rsz_small _ (by decide +kernel) (by decide +kernel))
  clear hpx
  obtain ⟨py, hpy⟩ : ∃ p, sQ hdist 1 = p := ⟨_, rfl⟩
  have HPy := Lib.hid hpy
  have Hzy := Lib.hid (show rsz py ≤ 1 by rw [← hpy, aw_y]; exact rsz_small _ (by decide +kernel) (by decide +kernel))
  clear hpy
  obtain ⟨pz, hpz⟩ : ∃ p, bothQ hdist 4 0 = p := ⟨_, rfl⟩
  have HPz := Lib.hid hpz
  have Hzz := Lib.hid (show rsz pz ≤ 1 by rw [← hpz, aw_z]; exact rsz_small _ (by decide +kernel) (by decide +kernel))
  clear hpz
  have hN0 := hN
  have HT := Lib.hid htab
  clear htab
  have HB := Lib.hid (Below.refl w.heap.size w)
  go_enter Tryd.func21, Tryd.ntmps21
  go_wp2_with fail
  refine calls_name fun W0 hW => ?_
  have hN_W0 : N ≤ W0.heap.size := by rw [← hW]; (first | omega | (simp; done) | (simp; omega))
  have hs_W0 : w.heap.size ≤ W0.heap.size := by rw [← hW]; (first | omega | (simp; done) | (simp; omega))
  have hs0_W0 : w.heap.size ≤ W0.heap.size := by rw [← hW]; (first | omega | (simp; done) | (simp; omega))
  have HB_W0 := Lib.hid (show Below w.heap.size w W0 by rw [← hW]; (repeat' (first | with_reducible exact Below.refl _ _ | with_reducible exact HB.out | (with_reducible refine Below.alloc ?_ ?_ _; rotate_left; (focus (first | omega | (simp; done) | (simp; omega)))) | with_reducible apply Below.drew | (with_reducible refine Below.setCell ?_ ?_ _; rotate_left; (focus (first | omega | (simp; done) | (simp; omega)))))))
  have HL_W0 := Lib.hid (show Below w.heap.size w W0 by rw [← hW]; (repeat' (first | with_reducible exact Below.refl _ _ | (with_reducible refine Below.alloc ?_ ?_ _; rotate_left; (focus (first | omega | (simp; done) | (simp; omega)))) | with_reducible apply Below.drew | (with_reducible refine Below.setCell ?_ ?_ _; rotate_left; (focus (first | omega | (simp; done) | (simp; omega)))))))
  have HT_W0 := Lib.hid (HT.out.below HL_W0.out)
  clear HL_W0
  clear hW
  clear HB hN
  have hN := hN_W0
  have HB := HB_W0
  have hs0 := hs0_W0
  clear hN_W0 HB_W0 hs0_W0
  clear HT
  have HT := HT_W0
  clear HT_W0
  refine (part_any (N := N) 1 3 _ hN (by decide) (by decide) _ rfl).mono ?_
  rintro e w1 ⟨aa, da, rfl, hn, hb⟩
  have HT_w1 := Lib.hid (HT.out.below hb)
  have hN_w1 : N ≤ w1.heap.size := Nat.le_trans hN hb.size
  have hs_w1 : W0.heap.size ≤ w1.heap.size := hb.size
  have hs0_w1 : w.heap.size ≤ w1.heap.size := Nat.le_trans hs0 hb.size
  have HB_w1 := Lib.hid (HB.out.trans (hb.mono hs0))
  clear hb
  clear HB hN hs0
  have hN := hN_w1
  have HB := HB_w1
  have hs0 := hs0_w1
  clear hN_w1 HB_w1 hs0_w1
  clear HT
  have HT := HT_w1
  clear HT_w1
  have HQa := Lib.hid hn
  clear hn
  go_wp2_with fail
  refine (binomial_ok (N := N) 2 _ _ _ _ _ _ _ 1 (frq 1 3) _ hN HQa.out (by decide) pr13 (by decide) (sel3 (mkRat 4 9) (mkRat 4 9) (mkRat 1 9)) aw_a).mono ?_
  rintro e w2 ⟨ba, rfl, ba1, ba2, hl, hb⟩
  have HT_w2 := Lib.hid (HT.out.below hb)
  have hN_w2 : N ≤ w2.heap.size := Nat.le_trans hN hb.size
  have hs_w2 : w1.heap.size ≤ w2.heap.size := hb.size
  have hs0_w2 : w.heap.size ≤ w2.heap.size := Nat.le_trans hs0 hb.size
  have HQa_w2 := Lib.hid (HQa.out.below hb)
  have HB_w2 := Lib.hid (HB.out.trans (hb.mono hs0))
  clear hb
  clear HQa HB hN hs0
  have hN := hN_w2
  have HB := HB_w2
  have hs0 := hs0_w2
  have HQa := HQa_w2
  clear hN_w2 HB_w2 hs0_w2 HQa_w2
  clear HT
  have HT := HT_w2
  clear HT_w2
  have LA := Lib.hid hl
  clear hl
  clear HQa
  go_wp2_with fail
  refine (hyper_ok (N := N) 3 2 2 3 _ hN (by decide) (by decide) (by decide) (by decide) (sel3 0 (mkRat 2 3) (mkRat 1 3)) aw_b).mono ?_
  rintro e w3 ⟨bb, rfl, bb1, bb2, hl, hb⟩
  have LA_w3 := Lib.hid (LA.out.below hb)
  have HT_w3 := Lib.hid (HT.out.below hb)
  have hN_w3 : N ≤ w3.heap.size := Nat.le_trans hN hb.size
  have hs_w3 : w2.heap.size ≤ w3.heap.size := hb.size
  have hs0_w3 : w.heap.size ≤ w3.heap.size := Nat.le_trans hs0 hb.size
  have HB_w3 := Lib.hid (HB.out.trans (hb.mono hs0))
  clear hb
  clear HB hN hs0
  have hN := hN_w3
  have HB := HB_w3
  have hs0 := hs0_w3
  clear hN_w3 HB_w3 hs0_w3
  clear LA HT
  have LA := LA_w3
  have HT := HT_w3
  clear LA_w3 HT_w3
  have LB := Lib.hid hl
  clear hl
  go_wp2_with fail
  refine (part_any (N := N) 1 2 _ hN (by decide) (by decide) _ rfl).mono ?_
  rintro e w4 ⟨ab, db, rfl, hn, hb⟩
  have LA_w4 := Lib.hid (LA.out.below hb)
  have LB_w4 := Lib.hid (LB.out.below hb)
  have HT_w4 := Lib.hid (HT.out.below hb)
  have hN_w4 : N ≤ w4.heap.size := Nat.le_trans hN hb.size
  have hs_w4 : w3.heap.size ≤ w4.heap.size := hb.size
  have hs0_w4 : w.heap.size ≤ w4.heap.size := Nat.le_trans hs0 hb.size
  have HB_w4 := Lib.hid (HB.out.trans (hb.mono hs0))
  clear hb
  clear HB hN hs0
  have hN := hN_w4
  have HB := HB_w4
  have hs0 := hs0_w4
  clear hN_w4 HB_w4 hs0_w4
  clear LA LB HT
  have LA := LA_w4
  have LB := LB_w4
  have HT := HT_w4
  clear LA_w4 LB_w4 HT_w4
  have HQb := Lib.hid hn
  clear hn
  go_wp2_with fail
  refine (part_any (N := N) 1 3 _ hN (by decide) (by decide) _ rfl).mono ?_
  rintro e w5 ⟨ac, dc, rfl, hn, hb⟩
  have LA_w5 := Lib.hid (LA.out.below hb)
  have LB_w5 := Lib.hid (LB.out.below hb)
  have HT_w5 := Lib.hid (HT.out.below hb)
  have hN_w5 : N ≤ w5.heap.size := Nat.le_trans hN hb.size
  have hs_w5 : w4.heap.size ≤ w5.heap.size := hb.size
  have hs0_w5 : w.heap.size ≤ w5.heap.size := Nat.le_trans hs0 hb.size
  have HQb_w5 := Lib.hid (HQb.out.below hb)
  have HB_w5 := Lib.hid (HB.out.trans (hb.mono hs0))
  clear hb
  clear HQb HB hN hs0
  have hN := hN_w5
  have HB := HB_w5
  have hs0 := hs0_w5
  have HQb := HQb_w5
  clear hN_w5 HB_w5 hs0_w5 HQb_w5
  clear LA LB HT
  have LA := LA_w5
  have LB := LB_w5
  have HT := HT_w5
  clear LA_w5 LB_w5 HT_w5
  have HQc := Lib.hid hn
  clear hn
  go_wp2_with fail
  refine calls_name fun W6 hW => ?_
  have hN_W6 : N ≤ W6.heap.size := by rw [← hW]; (first | omega | (simp; done) | (simp; omega))
  have hs_W6 : w5.heap.size ≤ W6.heap.size := by rw [← hW]; (first | omega | (simp; done) | (simp; omega))
  have hs0_W6 : w.heap.size ≤ W6.heap.size := by rw [← hW]; (first | omega | (simp; done) | (simp; omega))
  have HK_W6 := Lib.hid (show Kp N w5 W6 by rw [← hW]; (repeat' (first | with_reducible exact Kp.refl _ _ | with_reducible apply Kp.alloc | with_reducible apply Kp.drew | (with_reducible refine Kp.put ?_ ?_ ?_ _; rotate_left; (focus (first | omega | (simp; done) | (simp; omega))); rotate_left) | (with_reducible refine Bn.new _ _ _ _ ?_ ?_; (focus (first | omega | (simp; done) | (simp; omega))); decide) | with_reducible apply Bn.alloc | with_reducible apply Bn.drew | with_reducible apply Bn.set)))
  have HQb_W6 := Lib.hid (HQb.out.keep HK_W6.out)
  have HQc_W6 := Lib.hid (HQc.out.keep HK_W6.out)
  have HB_W6 := Lib.hid (show Below w.heap.size w W6 by rw [← hW]; (repeat' (first | with_reducible exact Below.refl _ _ | with_reducible exact HB.out | (with_reducible refine Below.alloc ?_ ?_ _; rotate_left; (focus (first | omega | (simp; done) | (simp; omega)))) | with_reducible apply Below.drew | (with_reducible refine Below.setCell ?_ ?_ _; rotate_left; (focus (first | omega | (simp; done) | (simp; omega)))))))
  have RC := Lib.hid (show Rs N W6 (some ⟨w5.heap.size, 0, none⟩) 2 2 (sel3 (frq 1 2) (frq 1 3) 0) 1 by rw [← hW]; exact Rs.two _ rfl 0 HQb.out HQc.out)
  have HL_W6 := Lib.hid (show Below w5.heap.size w5 W6 by rw [← hW]; (repeat' (first | with_reducible exact Below.refl _ _ | (with_reducible refine Below.alloc ?_ ?_ _; rotate_left; (focus (first | omega | (simp; done) | (simp; omega)))) | with_reducible apply Below.drew | (with_reducible refine Below.setCell ?_ ?_ _; rotate_left; (focus (first | omega | (simp; done) | (simp; omega)))))))
  have LA_W6 := Lib.hid (LA.out.below HL_W6.out)
  have LB_W6 := Lib.hid (LB.out.below HL_W6.out)
  have HT_W6 := Lib.hid (HT.out.below HL_W6.out)
  clear HL_W6
  clear hW HK_W6
  clear HQb HQc HB hN hs0
  have hN := hN_W6
  have HB := HB_W6
  have hs0 := hs0_W6
  have HQb := HQb_W6
  have HQc := HQc_W6
  clear hN_W6 HB_W6 hs0_W6 HQb_W6 HQc_W6
  clear LA LB HT
  have LA := LA_W6
  have LB := LB_W6
  have HT := HT_W6
  clear LA_W6 LB_W6 HT_W6
  have lt_LA := LA.out.lt
  have lt_LB := LB.out.lt
  refine (trials_ok (N := N) _ 2 2 _ 1 _ hN RC.out (by decide) aw_cp (by decide) (sel3 (mkRat 1 3) (mkRat 1 2) (mkRat 1 6)) aw_c).mono ?_
  rintro e w7 ⟨bc, rfl, bc1, bc2, hl, hb⟩
  have LA_w7 := Lib.hid (LA.out.below hb)
  have LB_w7 := Lib.hid (LB.out.below hb)
  have HT_w7 := Lib.hid (HT.out.below hb)
  have RC_w7 := Lib.hid (RC.out.below hb)
  have hN_w7 : N ≤ w7.heap.size := Nat.le_trans hN hb.size
  have hs_w7 : W6.heap.size ≤ w7.heap.size := hb.size
  have hs0_w7 : w.heap.size ≤ w7.heap.size := Nat.le_trans hs0 hb.size
  have HQb_w7 := Lib.hid (HQb.out.below hb)
  have HQc_w7 := Lib.hid (HQc.out.below hb)
  have HB_w7 := Lib.hid (HB.out.trans (hb.mono hs0))
  clear hb
  clear HQb HQc HB hN hs0
  have hN := hN_w7
  have HB := HB_w7
  have hs0 := hs0_w7
  have HQb := HQb_w7
  have HQc := HQc_w7
  clear hN_w7 HB_w7 hs0_w7 HQb_w7 HQc_w7
  clear LA LB HT RC
  have LA := LA_w7
  have LB := LB_w7
  have HT := HT_w7
  have RC := RC_w7
  clear LA_w7 LB_w7 HT_w7 RC_w7
  have LC := Lib.hid hl
  clear hl
  clear HQb
  clear HQc
  clear RC
  go_wp2_with fail
  refine calls_name fun W8 hW => ?_
  have hN_W8 : N ≤ W8.heap.size := by rw [← hW]; (first | omega | (simp; done) | (simp; omega))
  have hs_W8 : w7.heap.size ≤ W8.heap.size := by rw [← hW]; (first | omega | (simp; done) | (simp; omega))
  have hs0_W8 : w.heap.size ≤ W8.heap.size := by rw [← hW]; (first | omega | (simp; done) | (simp; omega))
  have HB_W8 := Lib.hid (show Below w.heap.size w W8 by rw [← hW]; (repeat' (first | with_reducible exact Below.refl _ _ | with_reducible exact HB.out | (with_reducible refine Below.alloc ?_ ?_ _; rotate_left; (focus (first | omega | (simp; done) | (simp; omega)))) | with_reducible apply Below.drew | (with_reducible refine Below.setCell ?_ ?_ _; rotate_left; (focus (first | omega | (simp; done) | (simp; omega)))))))
  have HS_W8 := Lib.hid (show Ss W8 (some ⟨w7.heap.size, 0, none⟩) 3 3 (sel3 ⟨#[52, 47, 57]⟩ ⟨#[52, 47, 57]⟩ ⟨#[49, 47, 57]⟩) by rw [← hW]; exact Ss.three _ _ rfl _ _ _)
  have HL_W8 := Lib.hid (show Below w7.heap.size w7 W8 by rw [← hW]; (repeat' (first | with_reducible exact Below.refl _ _ | (with_reducible refine Below.alloc ?_ ?_ _; rotate_left; (focus (first | omega | (simp; done) | (simp; omega)))) | with_reducible apply Below.drew | (with_reducible refine Below.setCell ?_ ?_ _; rotate_left; (focus (first | omega | (simp; done) | (simp; omega)))))))
  have LA_W8 := Lib.hid (LA.out.below HL_W8.out)
  have LB_W8 := Lib.hid (LB.out.below HL_W8.out)
  have LC_W8 := Lib.hid (LC.out.below HL_W8.out)
  have HT_W8 := Lib.hid (HT.out.below HL_W8.out)
  clear HL_W8
  clear hW
  clear HB hN hs0
  have hN := hN_W8
  have HB := HB_W8
  have hs0 := hs0_W8
  clear hN_W8 HB_W8 hs0_W8
  clear LA LB LC HT
  have LA := LA_W8
  have LB := LB_W8
  have LC := LC_W8
  have HT := HT_W8
  clear LA_W8 LB_W8 LC_W8 HT_W8
  have lt_LA := LA.out.lt
  have lt_LB := LB.out.lt
  have lt_LC := LC.out.lt
  refine (is_any (N := N) _ _ 3 _ _ (sel3 (mkRat 4 9) (mkRat 4 9) (mkRat 1 9)) _ 1 _ hN ((LA.out).rs (by unfold maxLen; omega) 1 (fun i hi => rsz_small _ (aw_as i hi).1 (aw_as i hi).2)) HS_W8.out (by decide) HT.out (sel3_tx tx49 tx49 tx19)).mono ?_
  rintro e w9 ⟨rfl, hb⟩
  have LA_w9 := Lib.hid (LA.out.below hb)
  have LB_w9 := Lib.hid (LB.out.below hb)
  have LC_w9 := Lib.hid (LC.out.below hb)
  have HT_w9 := Lib.hid (HT.out.below hb)
  have hN_w9 : N ≤ w9.heap.size := Nat.le_trans hN hb.size
  have hs_w9 : W8.heap.size ≤ w9.heap.size := hb.size
  have hs0_w9 : w.heap.size ≤ w9.heap.size := Nat.le_trans hs0 hb.size
  have HB_w9 := Lib.hid (HB.out.trans (hb.mono hs0))
  clear hb
  clear HB hN hs0
  have hN := hN_w9
  have HB := HB_w9
  have hs0 := hs0_w9
  clear hN_w9 HB_w9 hs0_w9
  clear LA LB LC HT
  have LA := LA_w9
  have LB := LB_w9
  have LC := LC_w9
  have HT := HT_w9
  clear LA_w9 LB_w9 LC_w9 HT_w9
  go_wp2_with fail
  refine calls_name fun W10 hW => ?_
  have hN_W10 : N ≤ W10.heap.size := by rw [← hW]; (first | omega | (simp; done) | (simp; omega))
  have hs_W10 : w9.heap.size ≤ W10.heap.size := by rw [← hW]; (first | omega | (simp; done) | (simp; omega))
  have hs0_W10 : w.heap.size ≤ W10.heap.size := by rw [← hW]; (first | omega | (simp; done) | (simp; omega))
  have HB_W10 := Lib.hid (show Below w.heap.size w W10 by rw [← hW]; (repeat' (first | with_reducible exact Below.refl _ _ | with_reducible exact HB.out | (with_reducible refine Below.alloc ?_ ?_ _; rotate_left; (focus (first | omega | (simp; done) | (simp; omega)))) | with_reducible apply Below.drew | (with_reducible refine Below.setCell ?_ ?_ _; rotate_left; (focus (first | omega | (simp; done) | (simp; omega)))))))
  have HS_W10 := Lib.hid (show Ss W10 (some ⟨w9.heap.size, 0, none⟩) 3 3 (sel3 ⟨#[48]⟩ ⟨#[50, 47, 51]⟩ ⟨#[49, 47, 51]⟩) by rw [← hW]; exact Ss.three _ _ rfl _ _ _)
  have HL_W10 := Lib.hid (show Below w9.heap.size w9 W10 by rw [← hW]; (repeat' (first | with_reducible exact Below.refl _ _ | (with_reducible refine Below.alloc ?_ ?_ _; rotate_left; (focus (first | omega | (simp; done) | (simp; omega)))) | with_reducible apply Below.drew | (with_reducible refine Below.setCell ?_ ?_ _; rotate_left; (focus (first | omega | (simp; done) | (simp; omega)))))))
  have LA_W10 := Lib.hid (LA.out.below HL_W10.out)
  have LB_W10 := Lib.hid (LB.out.below HL_W10.out)
  have LC_W10 := Lib.hid (LC.out.below HL_W10.out)
  have HT_W10 := Lib.hid (HT.out.below HL_W10.out)
  clear HL_W10
  clear hW
  clear HB hN hs0
  have hN := hN_W10
  have HB := HB_W10
  have hs0 := hs0_W10
  clear hN_W10 HB_W10 hs0_W10
  clear LA LB LC HT
  have LA := LA_W10
  have LB := LB_W10
  have LC := LC_W10
  have HT := HT_W10
  clear LA_W10 LB_W10 LC_W10 HT_W10
  have lt_LA := LA.out.lt
  have lt_LB := LB.out.lt
  have lt_LC := LC.out.lt
  refine (is_any (N := N) _ _ 3 _ _ (sel3 0 (mkRat 2 3) (mkRat 1 3)) _ 1 _ hN ((LB.out).rs (by unfold maxLen; omega) 1 (fun i hi => rsz_small _ (aw_bs i hi).1 (aw_bs i hi).2)) HS_W10.out (by decide) HT.out (sel3_tx txt_zero7 tx23 tx13)).mono ?_
  rintro e w11 ⟨rfl, hb⟩
  have LA_w11 := Lib.hid (LA.out.below hb)
  have LB_w11 := Lib.hid (LB.out.below hb)
  have LC_w11 := Lib.hid (LC.out.below hb)
  have HT_w11 := Lib.hid (HT.out.below hb)
  have hN_w11 : N ≤ w11.heap.size := Nat.le_trans hN hb.size
  have hs_w11 : W10.heap.size ≤ w11.heap.size := hb.size
  have hs0_w11 : w.heap.size ≤ w11.heap.size := Nat.le_trans hs0 hb.size
  have HB_w11 := Lib.hid (HB.out.trans (hb.mono hs0))
  clear hb
  clear HB hN hs0
  have hN := hN_w11
  have HB := HB_w11
  have hs0 := hs0_w11
  clear hN_w11 HB_w11 hs0_w11
  clear LA LB LC HT
  have LA := LA_w11
  have LB := LB_w11
  have LC := LC_w11
  have HT := HT_w11
  clear LA_w11 LB_w11 LC_w11 HT_w11
  go_wp2_with fail
  refine calls_name fun W12 hW => ?_
  have hN_W12 : N ≤ W12.heap.size := by rw [← hW]; (first | omega | (simp; done) | (simp; omega))
  have hs_W12 : w11.heap.size ≤ W12.heap.size := by rw [← hW]; (first | omega | (simp; done) | (simp; omega))
  have hs0_W12 : w.heap.size ≤ W12.heap.size := by rw [← hW]; (first | omega | (simp; done) | (simp; omega))
  have HB_W12 := Lib.hid (show Below w.heap.size w W12 by rw [← hW]; (repeat' (first | with_reducible exact Below.refl _ _ | with_reducible exact HB.out | (with_reducible refine Below.alloc ?_ ?_ _; rotate_left; (focus (first | omega | (simp; done) | (simp; omega)))) | with_reducible apply Below.drew | (with_reducible refine Below.setCell ?_ ?_ _; rotate_left; (focus (first | omega | (simp; done) | (simp; omega)))))))
  have HS_W12 := Lib.hid (show Ss W12 (some ⟨w11.heap.size, 0, none⟩) 3 3 (sel3 ⟨#[49, 47, 51]⟩ ⟨#[49, 47, 50]⟩ ⟨#[49, 47, 54]⟩) by rw [← hW]; exact Ss.three _ _ rfl _ _ _)
  have HL_W12 := Lib.hid (show Below w11.heap.size w11 W12 by rw [← hW]; (repeat' (first | with_reducible exact Below.refl _ _ | (with_reducible refine Below.alloc ?_ ?_ _; rotate_left; (focus (first | omega | (simp; done) | (simp; omega)))) | with_reducible apply Below.drew | (with_reducible refine Below.setCell ?_ ?_ _; rotate_left; (focus (first | omega | (simp; done) | (simp; omega)))))))
  have LA_W12 := Lib.hid (LA.out.below HL_W12.out)
  have LB_W12 := Lib.hid (LB.out.below HL_W12.out)
  have LC_W12 := Lib.hid (LC.out.below HL_W12.out)
  have HT_W12 := Lib.hid (HT.out.below HL_W12.out)
  clear HL_W12
  clear hW
  clear HB hN hs0
  have hN := hN_W12
  have HB := HB_W12
  have hs0 := hs0_W12
  clear hN_W12 HB_W12 hs0_W12
  clear LA LB LC HT
  have LA := LA_W12
  have LB := LB_W12
  have LC := LC_W12
  have HT := HT_W12
  clear LA_W12 LB_W12 LC_W12 HT_W12
  have lt_LA := LA.out.lt
  have lt_LB := LB.out.lt
  have lt_LC := LC.out.lt
  refine (is_any (N := N) _ _ 3 _ _ (sel3 (mkRat 1 3) (mkRat 1 2) (mkRat 1 6)) _ 1 _ hN ((LC.out).rs (by unfold maxLen; omega) 1 (fun i hi => rsz_small _ (aw_cs i hi).1 (aw_cs i hi).2)) HS_W12.out (by decide) HT.out (sel3_tx tx13 tx12 tx16)).mono ?_
  rintro e w13 ⟨rfl, hb⟩
  have LA_w13 := Lib.hid (LA.out.below hb)
  have LB_w13 := Lib.hid (LB.out.below hb)
  have LC_w13 := Lib.hid (LC.out.below hb)
  have HT_w13 := Lib.hid (HT.out.below hb)
  have hN_w13 : N ≤ w13.heap.size := Nat.le_trans hN hb.size
  have hs_w13 : W12.heap.size ≤ w13.heap.size := hb.size
  have hs0_w13 : w.heap.size ≤ w13.heap.size := Nat.le_trans hs0 hb.size
  have HB_w13 := Lib.hid (HB.out.trans (hb.mono hs0))
  clear hb
  clear HB hN hs0
  have hN := hN_w13
  have HB := HB_w13
  have hs0 := hs0_w13
  clear hN_w13 HB_w13 hs0_w13
  clear LA LB LC HT
  have LA := LA_w13
  have LB := LB_w13
  have LC := LC_w13
  have HT := HT_w13
  clear LA_w13 LB_w13 LC_w13 HT_w13
  go_wp2_with fail
  clear LA
  clear LB
  refine (part_any (N := N) 1 2 _ hN (by decide) (by decide) _ rfl).mono ?_
  rintro e w14 ⟨ab, db, rfl, hn, hb⟩
  have LC_w14 := Lib.hid (LC.out.below hb)
  have HT_w14 := Lib.hid (HT.out.below hb)
  have hN_w14 : N ≤ w14.heap.size := Nat.le_trans hN hb.size
  have hs_w14 : w13.heap.size ≤ w14.heap.size := hb.size
  have hs0_w14 : w.heap.size ≤ w14.heap.size := Nat.le_trans hs0 hb.size
  have HB_w14 := Lib.hid (HB.out.trans (hb.mono hs0))
  clear hb
  clear HB hN hs0
  have hN := hN_w14
  have HB := HB_w14
  have hs0 := hs0_w14
  clear hN_w14 HB_w14 hs0_w14
  clear LC HT
  have LC := LC_w14
  have HT := HT_w14
  clear LC_w14 HT_w14
  have HQb := Lib.hid hn
  clear hn
  go_wp2_with fail
  refine (part_any (N := N) 2 4 _ hN (by decide) (by decide) _ rfl).mono ?_
  rintro e w15 ⟨ac, dc, rfl, hn, hb⟩
  have LC_w15 := Lib.hid (LC.out.below hb)
  have HT_w15 := Lib.hid (HT.out.below hb)
  have hN_w15 : N ≤ w15.heap.size := Nat.le_trans hN hb.size
  have hs_w15 : w14.heap.size ≤ w15.heap.size := hb.size
  have hs0_w15 : w.heap.size ≤ w15.heap.size := Nat.le_trans hs0 hb.size
  have HQb_w15 := Lib.hid (HQb.out.below hb)
  have HB_w15 := Lib.hid (HB.out.trans (hb.mono hs0))
  clear hb
  clear HQb HB hN hs0
  have hN := hN_w15
  have HB := HB_w15
  have hs0 := hs0_w15
  have HQb := HQb_w15
  clear hN_w15 HB_w15 hs0_w15 HQb_w15
  clear LC HT
  have LC := LC_w15
  have HT := HT_w15
  clear LC_w15 HT_w15
  have HQc := Lib.hid hn
  clear hn
  go_wp2_with fail
  refine calls_name fun W16 hW => ?_
  have hN_W16 : N ≤ W16.heap.size := by rw [← hW]; (first | omega | (simp; done) | (simp; omega))
  have hs_W16 : w15.heap.size ≤ W16.heap.size := by rw [← hW]; (first | omega | (simp; done) | (simp; omega))
  have hs0_W16 : w.heap.size ≤ W16.heap.size := by rw [← hW]; (first | omega | (simp; done) | (simp; omega))
  have HK_W16 := Lib.hid (show Kp N w15 W16 by rw [← hW]; (repeat' (first | with_reducible exact Kp.refl _ _ | with_reducible apply Kp.alloc | with_reducible apply Kp.drew | (with_reducible refine Kp.put ?_ ?_ ?_ _; rotate_left; (focus (first | omega | (simp; done) | (simp; omega))); rotate_left) | (with_reducible refine Bn.new _ _ _ _ ?_ ?_; (focus (first | omega | (simp; done) | (simp; omega))); decide) | with_reducible apply Bn.alloc | with_reducible apply Bn.drew | with_reducible apply Bn.set)))
  have HQb_W16 := Lib.hid (HQb.out.keep HK_W16.out)
  have HQc_W16 := Lib.hid (HQc.out.keep HK_W16.out)
  have HB_W16 := Lib.hid (show Below w.heap.size w W16 by rw [← hW]; (repeat' (first | with_reducible exact Below.refl _ _ | with_reducible exact HB.out | (with_reducible refine Below.alloc ?_ ?_ _; rotate_left; (focus (first | omega | (simp; done) | (simp; omega)))) | with_reducible apply Below.drew | (with_reducible refine Below.setCell ?_ ?_ _; rotate_left; (focus (first | omega | (simp; done) | (simp; omega)))))))
  have RC := Lib.hid (show Rs N W16 (some ⟨w15.heap.size, 0, none⟩) 2 2 (sel3 (frq 1 2) (frq 2 4) 0) 1 by rw [← hW]; exact Rs.two _ rfl 0 HQb.out HQc.out)
  have HL_W16 := Lib.hid (show Below w15.heap.size w15 W16 by rw [← hW]; (repeat' (first | with_reducible exact Below.refl _ _ | (with_reducible refine Below.alloc ?_ ?_ _; rotate_left; (focus (first | omega | (simp; done) | (simp; omega)))) | with_reducible apply Below.drew | (with_reducible refine Below.setCell ?_ ?_ _; rotate_left; (focus (first | omega | (simp; done) | (simp; omega)))))))
  have LC_W16 := Lib.hid (LC.out.below HL_W16.out)
  have HT_W16 := Lib.hid (HT.out.below HL_W16.out)
  clear HL_W16
  clear hW HK_W16
  clear HQb HQc HB hN hs0
  have hN := hN_W16
  have HB := HB_W16
  have hs0 := hs0_W16
  have HQb := HQb_W16
  have HQc := HQc_W16
  clear hN_W16 HB_W16 hs0_W16 HQb_W16 HQc_W16
  clear LC HT
  have LC := LC_W16
  have HT := HT_W16
  clear LC_W16 HT_W16
  have lt_LC := LC.out.lt
  clear HQb
  clear HQc
  refine (part_any (N := N) 1 2 _ hN (by decide) (by decide) _ rfl).mono ?_
  rintro e w17 ⟨ad, dd, rfl, hn, hb⟩
  have LC_w17 := Lib.hid (LC.out.below hb)
  have HT_w17 := Lib.hid (HT.out.below hb)
  have RC_w17 := Lib.hid (RC.out.below hb)
  have hN_w17 : N ≤ w17.heap.size := Nat.le_trans hN hb.size
  have hs_w17 : W16.heap.size ≤ w17.heap.size := hb.size
  have hs0_w17 : w.heap.size ≤ w17.heap.size := Nat.le_trans hs0 hb.size
  have HB_w17 := Lib.hid (HB.out.trans (hb.mono hs0))
  clear hb
  clear HB hN hs0
  have hN := hN_w17
  have HB := HB_w17
  have hs0 := hs0_w17
  clear hN_w17 HB_w17 hs0_w17
  clear LC HT RC
  have LC := LC_w17
  have HT := HT_w17
  have RC := RC_w17
  clear LC_w17 HT_w17 RC_w17
  have HQd := Lib.hid hn
  clear hn
  go_wp2_with fail
  refine (part_any (N := N) 1 2 _ hN (by decide) (by decide) _ rfl).mono ?_
  rintro e w18 ⟨ae, de, rfl, hn, hb⟩
  have LC_w18 := Lib.hid (LC.out.below hb)
  have HT_w18 := Lib.hid (HT.out.below hb)
  have RC_w18 := Lib.hid (RC.out.below hb)
  have hN_w18 : N ≤ w18.heap.size := Nat.le_trans hN hb.size
  have hs_w18 : w17.heap.size ≤ w18.heap.size := hb.size
  have hs0_w18 : w.heap.size ≤ w18.heap.size := Nat.le_trans hs0 hb.size
  have HQd_w18 := Lib.hid (HQd.out.below hb)
  have HB_w18 := Lib.hid (HB.out.trans (hb.mono hs0))
  clear hb
  clear HQd HB hN hs0
  have hN := hN_w18
  have HB := HB_w18
  have hs0 := hs0_w18
  have HQd := HQd_w18
  clear hN_w18 HB_w18 hs0_w18 HQd_w18
  clear LC HT RC
  have LC := LC_w18
  have HT := HT_w18
  have RC := RC_w18
  clear LC_w18 HT_w18 RC_w18
  have HQe := Lib.hid hn
  clear hn
  go_wp2_with fail
  refine calls_name fun W19 hW => ?_
  have hN_W19 : N ≤ W19.heap.size := by rw [← hW]; (first | omega | (simp; done) | (simp; omega))
  have hs_W19 : w18.heap.size ≤ W19.heap.size := by rw [← hW]; (first | omega | (simp; done) | (simp; omega))
  have hs0_W19 : w.heap.size ≤ W19.heap.size := by rw [← hW]; (first | omega | (simp; done) | (simp; omega))
  have HK_W19 := Lib.hid (show Kp N w18 W19 by rw [← hW]; (repeat' (first | with_reducible exact Kp.refl _ _ | with_reducible apply Kp.alloc | with_reducible apply Kp.drew | (with_reducible refine Kp.put ?_ ?_ ?_ _; rotate_left; (focus (first | omega | (simp; done) | (simp; omega))); rotate_left) | (with_reducible refine Bn.new _ _ _ _ ?_ ?_; (focus (first | omega | (simp; done) | (simp; omega))); decide) | with_reducible apply Bn.alloc | with_reducible apply Bn.drew | with_reducible apply Bn.set)))
  have HQd_W19 := Lib.hid (HQd.out.keep HK_W19.out)
  have HQe_W19 := Lib.hid (HQe.out.keep HK_W19.out)
  have HB_W19 := Lib.hid (show Below w.heap.size w W19 by rw [← hW]; (repeat' (first | with_reducible exact Below.refl _ _ | with_reducible exact HB.out | (with_reducible refine Below.alloc ?_ ?_ _; rotate_left; (focus (first | omega | (simp; done) | (simp; omega)))) | with_reducible apply Below.drew | (with_reducible refine Below.setCell ?_ ?_ _; rotate_left; (focus (first | omega | (simp; done) | (simp; omega)))))))
  have RD := Lib.hid (show Rs N W19 (some ⟨w18.heap.size, 0, none⟩) 2 2 (sel3 (frq 1 2) (frq 1 2) 0) 1 by rw [← hW]; exact Rs.two _ rfl 0 HQd.out HQe.out)
  have HL_W19 := Lib.hid (show Below w18.heap.size w18 W19 by rw [← hW]; (repeat' (first | with_reducible exact Below.refl _ _ | (with_reducible refine Below.alloc ?_ ?_ _; rotate_left; (focus (first | omega | (simp; done) | (simp; omega)))) | with_reducible apply Below.drew | (with_reducible refine Below.setCell ?_ ?_ _; rotate_left; (focus (first | omega | (simp; done) | (simp; omega)))))))
  have LC_W19 := Lib.hid (LC.out.below HL_W19.out)
  have HT_W19 := Lib.hid (HT.out.below HL_W19.out)
  have RC_W19 := Lib.hid (RC.out.below HL_W19.out)
  clear HL_W19
  clear hW HK_W19
  clear HQd HQe HB hN hs0
  have hN := hN_W19
  have HB := HB_W19
  have hs0 := hs0_W19
  have HQd := HQd_W19
  have HQe := HQe_W19
  clear hN_W19 HB_W19 hs0_W19 HQd_W19 HQe_W19
  clear LC HT RC
  have LC := LC_W19
  have HT := HT_W19
  have RC := RC_W19
  clear LC_W19 HT_W19 RC_W19
  have lt_LC := LC.out.lt
  refine (Convolve_ok (N := N) _ _ 2 _ 2 _ _ _ 1 _ hN RC.out RD.out (by decide) aw_d1 aw_d2 3 rfl (by decide) (sel3 (mkRat 1 4) (mkRat 1 2) (mkRat 1 4)) aw_d).mono ?_
  rintro e w20 ⟨bd, rfl, bd1, bd2, hl, hb⟩
  have LC_w20 := Lib.hid (LC.out.below hb)
  have HT_w20 := Lib.hid (HT.out.below hb)
  have RC_w20 := Lib.hid (RC.out.below hb)
  have RD_w20 := Lib.hid (RD.out.below hb)
  have hN_w20 : N ≤ w20.heap.size := Nat.le_trans hN hb.size
  have hs_w20 : W19.heap.size ≤ w20.heap.size := hb.size
  have hs0_w20 : w.heap.size ≤ w20.heap.size := Nat.le_trans hs0 hb.size
  have HQd_w20 := Lib.hid (HQd.out.below hb)
  have HQe_w20 := Lib.hid (HQe.out.below hb)
  have HB_w20 := Lib.hid (HB.out.trans (hb.mono hs0))
  clear hb
  clear HQd HQe HB hN hs0
  have hN := hN_w20
  have HB := HB_w20
  have hs0 := hs0_w20
  have HQd := HQd_w20
  have HQe := HQe_w20
  clear hN_w20 HB_w20 hs0_w20 HQd_w20 HQe_w20
  clear LC HT RC RD
  have LC := LC_w20
  have HT := HT_w20
  have RC := RC_w20
  have RD := RD_w20
  clear LC_w20 HT_w20 RC_w20 RD_w20
  have LD := Lib.hid hl
  clear hl
  clear HQd
  clear HQe
  clear RC
  clear RD
  go_wp2_with fail
  refine calls_name fun W21 hW => ?_
  have hN_W21 : N ≤ W21.heap.size := by rw [← hW]; (first | omega | (simp; done) | (simp; omega))
  have hs_W21 : w20.heap.size ≤ W21.heap.size := by rw [← hW]; (first | omega | (simp; done) | (simp; omega))
  have hs0_W21 : w.heap.size ≤ W21.heap.size := by rw [← hW]; (first | omega | (simp; done) | (simp; omega))
  have HB_W21 := Lib.hid (show Below w.heap.size w W21 by rw [← hW]; (repeat' (first | with_reducible exact Below.refl _ _ | with_reducible exact HB.out | (with_reducible refine Below.alloc ?_ ?_ _; rotate_left; (focus (first | omega | (simp; done) | (simp; omega)))) | with_reducible apply Below.drew | (with_reducible refine Below.setCell ?_ ?_ _; rotate_left; (focus (first | omega | (simp; done) | (simp; omega)))))))
  have HS_W21 := Lib.hid (show Ss W21 (some ⟨w20.heap.size, 0, none⟩) 3 3 (sel3 ⟨#[49, 47, 52]⟩ ⟨#[49, 47, 50]⟩ ⟨#[49, 47, 52]⟩) by rw [← hW]; exact Ss.three _ _ rfl _ _ _)
  have HL_W21 := Lib.hid (show Below w20.heap.size w20 W21 by rw [← hW]; (repeat' (first | with_reducible exact Below.refl _ _ | (with_reducible refine Below.alloc ?_ ?_ _; rotate_left; (focus (first | omega | (simp; done) | (simp; omega)))) | with_reducible apply Below.drew | (with_reducible refine Below.setCell ?_ ?_ _; rotate_left; (focus (first | omega | (simp; done) | (simp; omega)))))))
  have LC_W21 := Lib.hid (LC.out.below HL_W21.out)
  have LD_W21 := Lib.hid (LD.out.below HL_W21.out)
  have HT_W21 := Lib.hid (HT.out.below HL_W21.out)
  clear HL_W21
  clear hW
  clear HB hN hs0
  have hN := hN_W21
  have HB := HB_W21
  have hs0 := hs0_W21
  clear hN_W21 HB_W21 hs0_W21
  clear LC LD HT
  have LC := LC_W21
  have LD := LD_W21
  have HT := HT_W21
  clear LC_W21 LD_W21 HT_W21
  have lt_LC := LC.out.lt
  have lt_LD := LD.out.lt
  refine (is_any (N := N) _ _ 3 _ _ (sel3 (mkRat 1 4) (mkRat 1 2) (mkRat 1 4)) _ 1 _ hN ((LD.out).rs (by unfold maxLen; omega) 1 (fun i hi => rsz_small _ (aw_ds i hi).1 (aw_ds i hi).2)) HS_W21.out (by decide) HT.out (sel3_tx tx14 tx12 tx14)).mono ?_
  rintro e w22 ⟨rfl, hb⟩
  have LC_w22 := Lib.hid (LC.out.below hb)
  have LD_w22 := Lib.hid (LD.out.below hb)
  have HT_w22 := Lib.hid (HT.out.below hb)
  have hN_w22 : N ≤ w22.heap.size := Nat.le_trans hN hb.size
  have hs_w22 : W21.heap.size ≤ w22.heap.size := hb.size
  have hs0_w22 : w.heap.size ≤ w22.heap.size := Nat.le_trans hs0 hb.size
  have HB_w22 := Lib.hid (HB.out.trans (hb.mono hs0))
  clear hb
  clear HB hN hs0
  have hN := hN_w22
  have HB := HB_w22
  have hs0 := hs0_w22
  clear hN_w22 HB_w22 hs0_w22
  clear LC LD HT
  have LC := LC_w22
  have LD := LD_w22
  have HT := HT_w22
  clear LC_w22 LD_w22 HT_w22
  go_wp2_with fail
  clear LD
  refine (Valid_any (N := N) _ 3 _ (sel3 (mkRat 1 3) (mkRat 1 2) (mkRat 1 6)) 1 _ hN ((LC.out).rs (by unfold maxLen; omega) 1 (fun i hi => rsz_small _ (aw_cs i hi).1 (aw_cs i hi).2)) (by decide) true aw_v).mono ?_
  rintro e w23 ⟨rfl, hb⟩
  have LC_w23 := Lib.hid (LC.out.below hb)
  have HT_w23 := Lib.hid (HT.out.below hb)
  have hN_w23 : N ≤ w23.heap.size := Nat.le_trans hN hb.size
  have hs_w23 : w22.heap.size ≤ w23.heap.size := hb.size
  have hs0_w23 : w.heap.size ≤ w23.heap.size := Nat.le_trans hs0 hb.size
  have HB_w23 := Lib.hid (HB.out.trans (hb.mono hs0))
  clear hb
  clear HB hN hs0
  have hN := hN_w23
  have HB := HB_w23
  have hs0 := hs0_w23
  clear hN_w23 HB_w23 hs0_w23
  clear LC HT
  have LC := LC_w23
  have HT := HT_w23
  clear LC_w23 HT_w23
  go_wp2_with fail
  refine (part_any (N := N) 1 2 _ hN (by decide) (by decide) _ rfl).mono ?_
  rintro e w24 ⟨ab, db, rfl, hn, hb⟩
  have LC_w24 := Lib.hid (LC.out.below hb)
  have HT_w24 := Lib.hid (HT.out.below hb)
  have hN_w24 : N ≤ w24.heap.size := Nat.le_trans hN hb.size
  have hs_w24 : w23.heap.size ≤ w24.heap.size := hb.size
  have hs0_w24 : w.heap.size ≤ w24.heap.size := Nat.le_trans hs0 hb.size
  have HB_w24 := Lib.hid (HB.out.trans (hb.mono hs0))
  clear hb
  clear HB hN hs0
  have hN := hN_w24
  have HB := HB_w24
  have hs0 := hs0_w24
  clear hN_w24 HB_w24 hs0_w24
  clear LC HT
  have LC := LC_w24
  have HT := HT_w24
  clear LC_w24 HT_w24
  have HQb := Lib.hid hn
  clear hn
  go_wp2_with fail
  refine (part_any (N := N) 1 3 _ hN (by decide) (by decide) _ rfl).mono ?_
  rintro e w25 ⟨ac, dc, rfl, hn, hb⟩
  have LC_w25 := Lib.hid (LC.out.below hb)
  have HT_w25 := Lib.hid (HT.out.below hb)
  have hN_w25 : N ≤ w25.heap.size := Nat.le_trans hN hb.size
  have hs_w25 : w24.heap.size ≤ w25.heap.size := hb.size
  have hs0_w25 : w.heap.size ≤ w25.heap.size := Nat.le_trans hs0 hb.size
  have HQb_w25 := Lib.hid (HQb.out.below hb)
  have HB_w25 := Lib.hid (HB.out.trans (hb.mono hs0))
  clear hb
  clear HQb HB hN hs0
  have hN := hN_w25
  have HB := HB_w25
  have hs0 := hs0_w25
  have HQb := HQb_w25
  clear hN_w25 HB_w25 hs0_w25 HQb_w25
  clear LC HT
  have LC := LC_w25
  have HT := HT_w25
  clear LC_w25 HT_w25
  have HQc := Lib.hid hn
  clear hn
  go_wp2_with fail
  refine calls_name fun W26 hW => ?_
  have hN_W26 : N ≤ W26.heap.size := by rw [← hW]; (first | omega | (simp; done) | (simp; omega))
  have hs_W26 : w25.heap.size ≤ W26.heap.size := by rw [← hW]; (first | omega | (simp; done) | (simp; omega))
  have hs0_W26 : w.heap.size ≤ W26.heap.size := by rw [← hW]; (first | omega | (simp; done) | (simp; omega))
  have HK_W26 := Lib.hid (show Kp N w25 W26 by rw [← hW]; (repeat' (first | with_reducible exact Kp.refl _ _ | with_reducible apply Kp.alloc | with_reducible apply Kp.drew | (with_reducible refine Kp.put ?_ ?_ ?_ _; rotate_left; (focus (first | omega | (simp; done) | (simp; omega))); rotate_left) | (with_reducible refine Bn.new _ _ _ _ ?_ ?_; (focus (first | omega | (simp; done) | (simp; omega))); decide) | with_reducible apply Bn.alloc | with_reducible apply Bn.drew | with_reducible apply Bn.set)))
  have HQb_W26 := Lib.hid (HQb.out.keep HK_W26.out)
  have HQc_W26 := Lib.hid (HQc.out.keep HK_W26.out)
  have HB_W26 := Lib.hid (show Below w.heap.size w W26 by rw [← hW]; (repeat' (first | with_reducible exact Below.refl _ _ | with_reducible exact HB.out | (with_reducible refine Below.alloc ?_ ?_ _; rotate_left; (focus (first | omega | (simp; done) | (simp; omega)))) | with_reducible apply Below.drew | (with_reducible refine Below.setCell ?_ ?_ _; rotate_left; (focus (first | omega | (simp; done) | (simp; omega)))))))
  have RC := Lib.hid (show Rs N W26 (some ⟨w25.heap.size, 0, none⟩) 2 2 (sel3 (frq 1 2) (frq 1 3) 0) 1 by rw [← hW]; exact Rs.two _ rfl 0 HQb.out HQc.out)
  have HL_W26 := Lib.hid (show Below w25.heap.size w25 W26 by rw [← hW]; (repeat' (first | with_reducible exact Below.refl _ _ | (with_reducible refine Below.alloc ?_ ?_ _; rotate_left; (focus (first | omega | (simp; done) | (simp; omega)))) | with_reducible apply Below.drew | (with_reducible refine Below.setCell ?_ ?_ _; rotate_left; (focus (first | omega | (simp; done) | (simp; omega)))))))
  have LC_W26 := Lib.hid (LC.out.below HL_W26.out)
  have HT_W26 := Lib.hid (HT.out.below HL_W26.out)
  clear HL_W26
  clear hW HK_W26
  clear HQb HQc HB hN hs0
  have hN := hN_W26
  have HB := HB_W26
  have hs0 := hs0_W26
  have HQb := HQb_W26
  have HQc := HQc_W26
  clear hN_W26 HB_W26 hs0_W26 HQb_W26 HQc_W26
  clear LC HT
  have LC := LC_W26
  have HT := HT_W26
  clear LC_W26 HT_W26
  have lt_LC := LC.out.lt
  refine (Valid_any (N := N) _ 2 _ _ 1 _ hN RC.out (by decide) false aw_nv).mono ?_
  rintro e w27 ⟨rfl, hb⟩
  have LC_w27 := Lib.hid (LC.out.below hb)
  have HT_w27 := Lib.hid (HT.out.below hb)
  have RC_w27 := Lib.hid (RC.out.below hb)
  have hN_w27 : N ≤ w27.heap.size := Nat.le_trans hN hb.size
  have hs_w27 : W26.heap.size ≤ w27.heap.size := hb.size
  have hs0_w27 : w.heap.size ≤ w27.heap.size := Nat.le_trans hs0 hb.size
  have HQb_w27 := Lib.hid (HQb.out.below hb)
  have HQc_w27 := Lib.hid (HQc.out.below hb)
  have HB_w27 := Lib.hid (HB.out.trans (hb.mono hs0))
  clear hb
  clear HQb HQc HB hN hs0
  have hN := hN_w27
  have HB := HB_w27
  have hs0 := hs0_w27
  have HQb := HQb_w27
  have HQc := HQc_w27
  clear hN_w27 HB_w27 hs0_w27 HQb_w27 HQc_w27
  clear LC HT RC
  have LC := LC_w27
  have HT := HT_w27
  have RC := RC_w27
  clear LC_w27 HT_w27 RC_w27
  clear HQb
  clear HQc
  clear RC
  go_wp2_with fail
  refine (Mean_ok (N := N) _ 3 _ (sel3 (mkRat 1 3) (mkRat 1 2) (mkRat 1 6)) 1 _ hN ((LC.out).rs (by unfold maxLen; omega) 1 (fun i hi => rsz_small _ (aw_cs i hi).1 (aw_cs i hi).2)) (by decide) aw_v pm HPm.out).mono ?_
  rintro e w28 ⟨rm, cm, rm2, cm2, rfl, hn, hn', hb⟩
  have LC_w28 := Lib.hid (LC.out.below hb)
  have HT_w28 := Lib.hid (HT.out.below hb)
  have hN_w28 : N ≤ w28.heap.size := Nat.le_trans hN hb.size
  have hs_w28 : w27.heap.size ≤ w28.heap.size := hb.size
  have hs0_w28 : w.heap.size ≤ w28.heap.size := Nat.le_trans hs0 hb.size
  have HB_w28 := Lib.hid (HB.out.trans (hb.mono hs0))
  clear hb
  clear HB hN hs0
  have hN := hN_w28
  have HB := HB_w28
  have hs0 := hs0_w28
  clear hN_w28 HB_w28 hs0_w28
  clear LC HT
  have LC := LC_w28
  have HT := HT_w28
  clear LC_w28 HT_w28
  have HM1 := Lib.hid hn
  clear hn
  have HM2 := Lib.hid hn'
  clear hn'
  go_wp2_with fail
  refine calls_name fun W29 hW => ?_
  have hN_W29 : N ≤ W29.heap.size := by rw [← hW]; (first | omega | (simp; done) | (simp; omega))
  have hs_W29 : w28.heap.size ≤ W29.heap.size := by rw [← hW]; (first | omega | (simp; done) | (simp; omega))
  have hs0_W29 : w.heap.size ≤ W29.heap.size := by rw [← hW]; (first | omega | (simp; done) | (simp; omega))
  have hl_M_W29 : w28.heap.size < W29.heap.size := by rw [← hW]; (first | omega | (simp; done) | (simp; omega))
  have k_M_0_W29 : W29.cell? ⟨w28.heap.size, 0, none⟩ = some (.bool (decide ((pm).num < 0))) := by rw [← hW]; (first | (go_simp; done) | (simp; done) | (simp [go_sem]; done) | (simp [go_sem]; done))
  have k_M_1_W29 : W29.cell? ⟨w28.heap.size, 1, none⟩ = some (.slice rm (nlen (pm).num.natAbs) cm) := by rw [← hW]; (first | (go_simp; done) | (simp; done) | (simp [go_sem]; done) | (simp [go_sem]; done))
  have k_M_2_W29 : W29.cell? ⟨w28.heap.size, 2, none⟩ = some (.slice rm2 (nlen (pm).den) cm2) := by rw [← hW]; (first | (go_simp; done) | (simp; done) | (simp [go_sem]; done) | (simp [go_sem]; done))
  have f_M_W29 : ∀ o, W29.frozen? ⟨w28.heap.size, o, none⟩ = false := by intro o; rw [← hW]; (first | (go_simp; done) | (simp; done) | (simp [go_sem]; done) | (simp [go_sem]; done))
  have HX_M_W29 := Lib.hid (show Bn W29 (w28.heap.size) by rw [← hW]; (repeat' (first | with_reducible exact Kp.refl _ _ | with_reducible apply Kp.alloc | with_reducible apply Kp.drew | (with_reducible refine Kp.put ?_ ?_ ?_ _; rotate_left; (focus (first | omega | (simp; done) | (simp; omega))); rotate_left) | (with_reducible refine Bn.new _ _ _ _ ?_ ?_; (focus (first | omega | (simp; done) | (simp; omega))); decide) | with_reducible apply Bn.alloc | with_reducible apply Bn.drew | with_reducible apply Bn.set)))
  have HK_W29 := Lib.hid (show Kp N w28 W29 by rw [← hW]; (repeat' (first | with_reducible exact Kp.refl _ _ | with_reducible apply Kp.alloc | with_reducible apply Kp.drew | (with_reducible refine Kp.put ?_ ?_ ?_ _; rotate_left; (focus (first | omega | (simp; done) | (simp; omega))); rotate_left) | (with_reducible refine Bn.new _ _ _ _ ?_ ?_; (focus (first | omega | (simp; done) | (simp; omega))); decide) | with_reducible apply Bn.alloc | with_reducible apply Bn.drew | with_reducible apply Bn.set)))
  have HM1_W29 := Lib.hid (HM1.out.keep HK_W29.out)
  have HM2_W29 := Lib.hid (HM2.out.keep HK_W29.out)
  have HB_W29 := Lib.hid (show Below w.heap.size w W29 by rw [← hW]; (repeat' (first | with_reducible exact Below.refl _ _ | with_reducible exact HB.out | (with_reducible refine Below.alloc ?_ ?_ _; rotate_left; (focus (first | omega | (simp; done) | (simp; omega)))) | with_reducible apply Below.drew | (with_reducible refine Below.setCell ?_ ?_ _; rotate_left; (focus (first | omega | (simp; done) | (simp; omega)))))))
  have HL_W29 := Lib.hid (show Below w28.heap.size w28 W29 by rw [← hW]; (repeat' (first | with_reducible exact Below.refl _ _ | (with_reducible refine Below.alloc ?_ ?_ _; rotate_left; (focus (first | omega | (simp; done) | (simp; omega)))) | with_reducible apply Below.drew | (with_reducible refine Below.setCell ?_ ?_ _; rotate_left; (focus (first | omega | (simp; done) | (simp; omega)))))))
  have LC_W29 := Lib.hid (LC.out.below HL_W29.out)
  have HT_W29 := Lib.hid (HT.out.below HL_W29.out)
  clear HL_W29
  clear hW HK_W29
  clear HM1 HM2 HB hN hs0
  have hN := hN_W29
  have HB := HB_W29
  have hs0 := hs0_W29
  have hl_M := hl_M_W29
  have f_M := f_M_W29
  have HX_M := HX_M_W29
  have k_M_0 := k_M_0_W29
  have k_M_1 := k_M_1_W29
  have k_M_2 := k_M_2_W29
  have HM1 := HM1_W29
  have HM2 := HM2_W29
  clear hN_W29 HB_W29 hs0_W29 hl_M_W29 f_M_W29 HX_M_W29 k_M_0_W29 k_M_1_W29 k_M_2_W29 HM1_W29 HM2_W29
  clear LC HT
  have LC := LC_W29
  have HT := HT_W29
  clear LC_W29 HT_W29
  have lt_LC := LC.out.lt
  refine (Variance_ok (N := N) _ 3 _ (sel3 (mkRat 1 3) (mkRat 1 2) (mkRat 1 6)) 1 _ hN ((LC.out).rs (by unfold maxLen; omega) 1 (fun i hi => rsz_small _ (aw_cs i hi).1 (aw_cs i hi).2)) (by decide) aw_v pv HPv.out).mono ?_
  rintro e w30 ⟨rv, cv, rv2, cv2, rfl, hn, hn', hb⟩
  have LC_w30 := Lib.hid (LC.out.below hb)
  have HT_w30 := Lib.hid (HT.out.below hb)
  have hN_w30 : N ≤ w30.heap.size := Nat.le_trans hN hb.size
  have hs_w30 : W29.heap.size ≤ w30.heap.size := hb.size
  have hs0_w30 : w.heap.size ≤ w30.heap.size := Nat.le_trans hs0 hb.size
  have hl_M_w30 : w28.heap.size < w30.heap.size := Nat.lt_of_lt_of_le hl_M hb.size
  have k_M_0_w30 : w30.cell? ⟨w28.heap.size, 0, none⟩ = some (.bool (decide ((pm).num < 0))) := (hb.cell (p := ⟨w28.heap.size, 0, none⟩) hl_M).trans k_M_0
  have k_M_1_w30 : w30.cell? ⟨w28.heap.size, 1, none⟩ = some (.slice rm (nlen (pm).num.natAbs) cm) := (hb.cell (p := ⟨w28.heap.size, 1, none⟩) hl_M).trans k_M_1
  have k_M_2_w30 : w30.cell? ⟨w28.heap.size, 2, none⟩ = some (.slice rm2 (nlen (pm).den) cm2) := (hb.cell (p := ⟨w28.heap.size, 2, none⟩) hl_M).trans k_M_2
  have f_M_w30 : ∀ o, w30.frozen? ⟨w28.heap.size, o, none⟩ = false := fun o => (hb.frozen (p := ⟨w28.heap.size, o, none⟩) hl_M).trans (f_M o)
  have HX_M_w30 := Lib.hid (HX_M.out.below hb)
  have HM1_w30 := Lib.hid (HM1.out.below hb)
  have HM2_w30 := Lib.hid (HM2.out.below hb)
  have HB_w30 := Lib.hid (HB.out.trans (hb.mono hs0))
  clear hb
  clear hl_M f_M HX_M k_M_0 k_M_1 k_M_2 HM1 HM2 HB hN hs0
  have hN := hN_w30
  have HB := HB_w30
  have hs0 := hs0_w30
  have hl_M := hl_M_w30
  have f_M := f_M_w30
  have HX_M := HX_M_w30
  have k_M_0 := k_M_0_w30
  have k_M_1 := k_M_1_w30
  have k_M_2 := k_M_2_w30
  have HM1 := HM1_w30
  have HM2 := HM2_w30
  clear hN_w30 HB_w30 hs0_w30 hl_M_w30 f_M_w30 HX_M_w30 k_M_0_w30 k_M_1_w30 k_M_2_w30 HM1_w30 HM2_w30
  clear LC HT
  have LC := LC_w30
  have HT := HT_w30
  clear LC_w30 HT_w30
  have HV1 := Lib.hid hn
  clear hn
  have HV2 := Lib.hid hn'
  clear hn'
  clear LC
  go_wp2_with fail
  refine calls_name fun W31 hW => ?_
  have HL_W31 := Lib.hid (show Below w30.heap.size w30 W31 by rw [← hW]; (repeat' (first | with_reducible exact Below.refl _ _ | (with_reducible refine Below.alloc ?_ ?_ _; rotate_left; (focus (first | omega | (simp; done) | (simp; omega)))) | with_reducible apply Below.drew | (with_reducible refine Below.setCell ?_ ?_ _; rotate_left; (focus (first | omega | (simp; done) | (simp; omega)))))))
  have hN_W31 : N ≤ W31.heap.size := by rw [← hW]; (first | omega | (simp; done) | (simp; omega))
  have hs_W31 : w30.heap.size ≤ W31.heap.size := by rw [← hW]; (first | omega | (simp; done) | (simp; omega))
  have hs0_W31 : w.heap.size ≤ W31.heap.size := by rw [← hW]; (first | omega | (simp; done) | (simp; omega))
  have hd_M_V : w28.heap.size < w30.heap.size := by omega
  have hl_M_W31 : w28.heap.size < W31.heap.size := by rw [← hW]; (first | omega | (simp; done) | (simp; omega))
  have k_M_0_W31 : W31.cell? ⟨w28.heap.size, 0, none⟩ = some (.bool (decide ((pm).num < 0))) := (HL_W31.out.cell (p := ⟨w28.heap.size, 0, none⟩) hl_M).trans k_M_0
  have k_M_1_W31 : W31.cell? ⟨w28.heap.size, 1, none⟩ = some (.slice rm (nlen (pm).num.natAbs) cm) := (HL_W31.out.cell (p := ⟨w28.heap.size, 1, none⟩) hl_M).trans k_M_1
  have k_M_2_W31 : W31.cell? ⟨w28.heap.size, 2, none⟩ = some (.slice rm2 (nlen (pm).den) cm2) := (HL_W31.out.cell (p := ⟨w28.heap.size, 2, none⟩) hl_M).trans k_M_2
  have f_M_W31 : ∀ o, W31.frozen? ⟨w28.heap.size, o, none⟩ = false := fun o => (HL_W31.out.frozen (p := ⟨w28.heap.size, o, none⟩) hl_M).trans (f_M o)
  have HX_M_W31 := Lib.hid (show Bn W31 (w28.heap.size) by rw [← hW]; (repeat' (first | with_reducible exact Kp.refl _ _ | with_reducible exact HX_M.out | with_reducible apply Kp.alloc | with_reducible apply Kp.drew | (with_reducible refine Kp.put ?_ ?_ ?_ _; rotate_left; (focus (first | omega | (simp; done) | (simp; omega))); rotate_left) | (with_reducible refine Bn.new _ _ _ _ ?_ ?_; (focus (first | omega | (simp; done) | (simp; omega))); decide) | with_reducible apply Bn.alloc | with_reducible apply Bn.drew | with_reducible apply Bn.set)))
  have hl_V_W31 : w30.heap.size < W31.heap.size := by rw [← hW]; (first | omega | (simp; done) | (simp; omega))
  have k_V_0_W31 : W31.cell? ⟨w30.heap.size, 0, none⟩ = some (.bool (decide ((pv).num < 0))) := by rw [← hW]; (first | (go_simp; done) | (simp; done) | (simp [go_sem]; done) | (simp [go_sem, k_M_0, k_M_1, k_M_2, f_M, hl_M]; done))
  have k_V_1_W31 : W31.cell? ⟨w30.heap.size, 1, none⟩ = some (.slice rv (nlen (pv).num.natAbs) cv) := by rw [← hW]; (first | (go_simp; done) | (simp; done) | (simp [go_sem]; done) | (simp [go_sem, k_M_0, k_M_1, k_M_2, f_M, hl_M]; done))
  have k_V_2_W31 : W31.cell? ⟨w30.heap.size, 2, none⟩ = some (.slice rv2 (nlen (pv).den) cv2) := by rw [← hW]; (first | (go_simp; done) | (simp; done) | (simp [go_sem]; done) | (simp [go_sem, k_M_0, k_M_1, k_M_2, f_M, hl_M]; done))
  have f_V_W31 : ∀ o, W31.frozen? ⟨w30.heap.size, o, none⟩ = false := by intro o; rw [← hW]; (first | (go_simp; done) | (simp; done) | (simp [go_sem]; done) | (simp [go_sem, k_M_0, k_M_1, k_M_2, f_M, hl_M]; done))
  have HX_V_W31 := Lib.hid (show Bn W31 (w30.heap.size) by rw [← hW]; (repeat' (first | with_reducible exact Kp.refl _ _ | with_reducible exact HX_M.out | with_reducible apply Kp.alloc | with_reducible apply Kp.drew | (with_reducible refine Kp.put ?_ ?_ ?_ _; rotate_left; (focus (first | omega | (simp; done) | (simp; omega))); rotate_left) | (with_reducible refine Bn.new _ _ _ _ ?_ ?_; (focus (first | omega | (simp; done) | (simp; omega))); decide) | with_reducible apply Bn.alloc | with_reducible apply Bn.drew | with_reducible apply Bn.set)))
  have HK_W31 := Lib.hid (show Kp N w30 W31 by rw [← hW]; (repeat' (first | with_reducible exact Kp.refl _ _ | with_reducible exact HX_M.out | with_reducible apply Kp.alloc | with_reducible apply Kp.drew | (with_reducible refine Kp.put ?_ ?_ ?_ _; rotate_left; (focus (first | omega | (simp; done) | (simp; omega))); rotate_left) | (with_reducible refine Bn.new _ _ _ _ ?_ ?_; (focus (first | omega | (simp; done) | (simp; omega))); decide) | with_reducible apply Bn.alloc | with_reducible apply Bn.drew | with_reducible apply Bn.set)))
  have HM1_W31 := Lib.hid (HM1.out.keep HK_W31.out)
  have HM2_W31 := Lib.hid (HM2.out.keep HK_W31.out)
  have HV1_W31 := Lib.hid (HV1.out.keep HK_W31.out)
  have HV2_W31 := Lib.hid (HV2.out.keep HK_W31.out)
  have HB_W31 := Lib.hid (show Below w.heap.size w W31 by rw [← hW]; (repeat' (first | with_reducible exact Below.refl _ _ | with_reducible exact HB.out | (with_reducible refine Below.alloc ?_ ?_ _; rotate_left; (focus (first | omega | (simp; done) | (simp; omega)))) | with_reducible apply Below.drew | (with_reducible refine Below.setCell ?_ ?_ _; rotate_left; (focus (first | omega | (simp; done) | (simp; omega)))))))
  have HR_W31 := Lib.hid (show Rs N W31 (some ⟨w30.heap.size + 1, 0, none⟩) 2 2 (sel3 pm pv 0) 1 by rw [← hW]; refine Rs.below ?_ (bel1 _ _); exact Rs.two _ (by simp) 0 ((Rt.of_norm HM1.out HM2.out 1 Hzm.out).alloc _) ((Rt.of_norm HV1.out HV2.out 1 Hzv.out).alloc _))
  have HS_W31 := Lib.hid (show Ss W31 (some ⟨w30.heap.size + 1 + 1, 0, none⟩) 2 2 (sel3 ⟨#[53, 47, 54]⟩ ⟨#[49, 55, 47, 51, 54]⟩ ⟨#[48]⟩) by rw [← hW]; exact Ss.two _ _ (by simp) _ _ _)
  have HT_W31 := Lib.hid (HT.out.below HL_W31.out)
  clear HL_W31
  clear hW HK_W31
  clear hl_M f_M HX_M k_M_0 k_M_1 k_M_2 HM1 HM2 HV1 HV2 HB hN hs0
  have hN := hN_W31
  have HB := HB_W31
  have hs0 := hs0_W31
  have hl_M := hl_M_W31
  have f_M := f_M_W31
  have HX_M := HX_M_W31
  have k_M_0 := k_M_0_W31
  have k_M_1 := k_M_1_W31
  have k_M_2 := k_M_2_W31
  have hl_V := hl_V_W31
  have f_V := f_V_W31
  have HX_V := HX_V_W31
  have k_V_0 := k_V_0_W31
  have k_V_1 := k_V_1_W31
  have k_V_2 := k_V_2_W31
  have HM1 := HM1_W31
  have HM2 := HM2_W31
  have HV1 := HV1_W31
  have HV2 := HV2_W31
  clear hN_W31 HB_W31 hs0_W31 hl_M_W31 f_M_W31 HX_M_W31 k_M_0_W31 k_M_1_W31 k_M_2_W31 hl_V_W31 f_V_W31 HX_V_W31 k_V_0_W31 k_V_1_W31 k_V_2_W31 HM1_W31 HM2_W31 HV1_W31 HV2_W31
  clear HT
  have HT := HT_W31
  clear HT_W31
  refine (is_any (N := N) _ _ 2 _ _ (sel3 pm pv 0) _ 1 _ hN HR_W31.out HS_W31.out (by decide) HT.out (sel2_tx (by rw [← HPm.out, aw_m]; exact tx56) (by rw [← HPv.out, aw_s]; exact txt_1736))).mono ?_
  rintro e w32 ⟨rfl, hb⟩
  have HT_w32 := Lib.hid (HT.out.below hb)
  have hN_w32 : N ≤ w32.heap.size := Nat.le_trans hN hb.size
  have hs_w32 : W31.heap.size ≤ w32.heap.size := hb.size
  have hs0_w32 : w.heap.size ≤ w32.heap.size := Nat.le_trans hs0 hb.size
  have hl_M_w32 : w28.heap.size < w32.heap.size := Nat.lt_of_lt_of_le hl_M hb.size
  have k_M_0_w32 : w32.cell? ⟨w28.heap.size, 0, none⟩ = some (.bool (decide ((pm).num < 0))) := (hb.cell (p := ⟨w28.heap.size, 0, none⟩) hl_M).trans k_M_0
  have k_M_1_w32 : w32.cell? ⟨w28.heap.size, 1, none⟩ = some (.slice rm (nlen (pm).num.natAbs) cm) := (hb.cell (p := ⟨w28.heap.size, 1, none⟩) hl_M).trans k_M_1
  have k_M_2_w32 : w32.cell? ⟨w28.heap.size, 2, none⟩ = some (.slice rm2 (nlen (pm).den) cm2) := (hb.cell (p := ⟨w28.heap.size, 2, none⟩) hl_M).trans k_M_2
  have f_M_w32 : ∀ o, w32.frozen? ⟨w28.heap.size, o, none⟩ = false := fun o => (hb.frozen (p := ⟨w28.heap.size, o, none⟩) hl_M).trans (f_M o)
  have HX_M_w32 := Lib.hid (HX_M.out.below hb)
  have hl_V_w32 : w30.heap.size < w32.heap.size := Nat.lt_of_lt_of_le hl_V hb.size
  have k_V_0_w32 : w32.cell? ⟨w30.heap.size, 0, none⟩ = some (.bool (decide ((pv).num < 0))) := (hb.cell (p := ⟨w30.heap.size, 0, none⟩) hl_V).trans k_V_0
  have k_V_1_w32 : w32.cell? ⟨w30.heap.size, 1, none⟩ = some (.slice rv (nlen (pv).num.natAbs) cv) := (hb.cell (p := ⟨w30.heap.size, 1, none⟩) hl_V).trans k_V_1
  have k_V_2_w32 : w32.cell? ⟨w30.heap.size, 2, none⟩ = some (.slice rv2 (nlen (pv).den) cv2) := (hb.cell (p := ⟨w30.heap.size, 2, none⟩) hl_V).trans k_V_2
  have f_V_w32 : ∀ o, w32.frozen? ⟨w30.heap.size, o, none⟩ = false := fun o => (hb.frozen (p := ⟨w30.heap.size, o, none⟩) hl_V).trans (f_V o)
  have HX_V_w32 := Lib.hid (HX_V.out.below hb)
  have HM1_w32 := Lib.hid (HM1.out.below hb)
  have HM2_w32 := Lib.hid (HM2.out.below hb)
  have HV1_w32 := Lib.hid (HV1.out.below hb)
  have HV2_w32 := Lib.hid (HV2.out.below hb)
  have HB_w32 := Lib.hid (HB.out.trans (hb.mono hs0))
  clear hb
  clear hl_M f_M HX_M k_M_0 k_M_1 k_M_2 hl_V f_V HX_V k_V_0 k_V_1 k_V_2 HM1 HM2 HV1 HV2 HB hN hs0
  have hN := hN_w32
  have HB := HB_w32
  have hs0 := hs0_w32
  have hl_M := hl_M_w32
  have f_M := f_M_w32
  have HX_M := HX_M_w32
  have k_M_0 := k_M_0_w32
  have k_M_1 := k_M_1_w32
  have k_M_2 := k_M_2_w32
  have hl_V := hl_V_w32
  have f_V := f_V_w32
  have HX_V := HX_V_w32
  have k_V_0 := k_V_0_w32
  have k_V_1 := k_V_1_w32
  have k_V_2 := k_V_2_w32
  have HM1 := HM1_w32
  have HM2 := HM2_w32
  have HV1 := HV1_w32
  have HV2 := HV2_w32
  clear hN_w32 HB_w32 hs0_w32 hl_M_w32 f_M_w32 HX_M_w32 k_M_0_w32 k_M_1_w32 k_M_2_w32 hl_V_w32 f_V_w32 HX_V_w32 k_V_0_w32 k_V_1_w32 k_V_2_w32 HM1_w32 HM2_w32 HV1_w32 HV2_w32
  clear HT
  have HT := HT_w32
  clear HT_w32
  clear hl_M f_M HX_M k_M_0 k_M_1 k_M_2
  clear hl_V f_V HX_V k_V_0 k_V_1 k_V_2
  clear HM1
  clear HM2
  clear HV1
  clear HV2
  go_wp2_with fail
  refine (part_any (N := N) 1 2 _ hN (by decide) (by decide) _ rfl).mono ?_
  rintro e w33 ⟨aa, da, rfl, hn, hb⟩
  have HT_w33 := Lib.hid (HT.out.below hb)
  have hN_w33 : N ≤ w33.heap.size := Nat.le_trans hN hb.size
  have hs_w33 : w32.heap.size ≤ w33.heap.size := hb.size
  have hs0_w33 : w.heap.size ≤ w33.heap.size := Nat.le_trans hs0 hb.size
  have HB_w33 := Lib.hid (HB.out.trans (hb.mono hs0))
  clear hb
  clear HB hN hs0
  have hN := hN_w33
  have HB := HB_w33
  have hs0 := hs0_w33
  clear hN_w33 HB_w33 hs0_w33
  clear HT
  have HT := HT_w33
  clear HT_w33
  have HQa := Lib.hid hn
  clear hn
  go_wp2_with fail
  refine (binomial_ok (N := N) 3 _ _ _ _ _ _ _ 1 (frq 1 2) _ hN HQa.out (by decide) pr12 (by decide) hdist aw_h).mono ?_
  rintro e w34 ⟨bh, rfl, bh1, bh2, hl, hb⟩
  have HT_w34 := Lib.hid (HT.out.below hb)
  have hN_w34 : N ≤ w34.heap.size := Nat.le_trans hN hb.size
  have hs_w34 : w33.heap.size ≤ w34.heap.size := hb.size
  have hs0_w34 : w.heap.size ≤ w34.heap.size := Nat.le_trans hs0 hb.size
  have HQa_w34 := Lib.hid (HQa.out.below hb)
  have HB_w34 := Lib.hid (HB.out.trans (hb.mono hs0))
  clear hb
  clear HQa HB hN hs0
  have hN := hN_w34
  have HB := HB_w34
  have hs0 := hs0_w34
  have HQa := HQa_w34
  clear hN_w34 HB_w34 hs0_w34 HQa_w34
  clear HT
  have HT := HT_w34
  clear HT_w34
  have LH := Lib.hid hl
  clear hl
  clear HQa
  go_wp2_with fail
  refine (Upper_ok (N := N) _ 4 _ hdist 1 _ hN ((LH.out).rs (by unfold maxLen; omega) 1 (fun i hi => rsz_small _ (aw_hs i hi).1 (aw_hs i hi).2)) (by decide) aw_hv 2 (by decide) (by decide) 2 (by decide) px HPx.out).mono ?_
  rintro e w35 ⟨rx, cx, rx2, cx2, rfl, hn, hn', hb⟩
  have LH_w35 := Lib.hid (LH.out.below hb)
  have HT_w35 := Lib.hid (HT.out.below hb)
  have hN_w35 : N ≤ w35.heap.size := Nat.le_trans hN hb.size
  have hs_w35 : w34.heap.size ≤ w35.heap.size := hb.size
  have hs0_w35 : w.heap.size ≤ w35.heap.size := Nat.le_trans hs0 hb.size
  have HB_w35 := Lib.hid (HB.out.trans (hb.mono hs0))
  clear hb
  clear HB hN hs0
  have hN := hN_w35
  have HB := HB_w35
  have hs0 := hs0_w35
  clear hN_w35 HB_w35 hs0_w35
  clear LH HT
  have LH := LH_w35
  have HT := HT_w35
  clear LH_w35 HT_w35
  have HX1 := Lib.hid hn
  clear hn
  have HX2 := Lib.hid hn'
  clear hn'
  go_wp2_with fail
  refine calls_name fun W36 hW => ?_
  have hN_W36 : N ≤ W36.heap.size := by rw [← hW]; (first | omega | (simp; done) | (simp; omega))
  have hs_W36 : w35.heap.size ≤ W36.heap.size := by rw [← hW]; (first | omega | (simp; done) | (simp; omega))
  have hs0_W36 : w.heap.size ≤ W36.heap.size := by rw [← hW]; (first | omega | (simp; done) | (simp; omega))
  have hl_X_W36 : w35.heap.size < W36.heap.size := by rw [← hW]; (first | omega | (simp; done) | (simp; omega))
  have k_X_0_W36 : W36.cell? ⟨w35.heap.size, 0, none⟩ = some (.bool (decide ((px).num < 0))) := by rw [← hW]; (first | (go_simp; done) | (simp; done) | (simp [go_sem]; done) | (simp [go_sem]; done))
  have k_X_1_W36 : W36.cell? ⟨w35.heap.size, 1, none⟩ = some (.slice rx (nlen (px).num.natAbs) cx) := by rw [← hW]; (first | (go_simp; done) | (simp; done) | (simp [go_sem]; done) | (simp [go_sem]; done))
  have k_X_2_W36 : W36.cell? ⟨w35.heap.size, 2, none⟩ = some (.slice rx2 (nlen (px).den) cx2) := by rw [← hW]; (first | (go_simp; done) | (simp; done) | (simp [go_sem]; done) | (simp [go_sem]; done))
  have f_X_W36 : ∀ o, W36.frozen? ⟨w35.heap.size, o, none⟩ = false := by intro o; rw [← hW]; (first | (go_simp; done) | (simp; done) | (simp [go_sem]; done) | (simp [go_sem]; done))
  have HX_X_W36 := Lib.hid (show Bn W36 (w35.heap.size) by rw [← hW]; (repeat' (first | with_reducible exact Kp.refl _ _ | with_reducible apply Kp.alloc | with_reducible apply Kp.drew | (with_reducible refine Kp.put ?_ ?_ ?_ _; rotate_left; (focus (first | omega | (simp; done) | (simp; omega))); rotate_left) | (with_reducible refine Bn.new _ _ _ _ ?_ ?_; (focus (first | omega | (simp; done) | (simp; omega))); decide) | with_reducible apply Bn.alloc | with_reducible apply Bn.drew | with_reducible apply Bn.set)))
  have HK_W36 := Lib.hid (show Kp N w35 W36 by rw [← hW]; (repeat' (first | with_reducible exact Kp.refl _ _ | with_reducible apply Kp.alloc | with_reducible apply Kp.drew | (with_reducible refine Kp.put ?_ ?_ ?_ _; rotate_left; (focus (first | omega | (simp; done) | (simp; omega))); rotate_left) | (with_reducible refine Bn.new _ _ _ _ ?_ ?_; (focus (first | omega | (simp; done) | (simp; omega))); decide) | with_reducible apply Bn.alloc | with_reducible apply Bn.drew | with_reducible apply Bn.set)))
  have HX1_W36 := Lib.hid (HX1.out.keep HK_W36.out)
  have HX2_W36 := Lib.hid (HX2.out.keep HK_W36.out)
  have HB_W36 := Lib.hid (show Below w.heap.size w W36 by rw [← hW]; (repeat' (first | with_reducible exact Below.refl _ _ | with_reducible exact HB.out | (with_reducible refine Below.alloc ?_ ?_ _; rotate_left; (focus (first | omega | (simp; done) | (simp; omega)))) | with_reducible apply Below.drew | (with_reducible refine Below.setCell ?_ ?_ _; rotate_left; (focus (first | omega | (simp; done) | (simp; omega)))))))
  have HL_W36 := Lib.hid (show Below w35.heap.size w35 W36 by rw [← hW]; (repeat' (first | with_reducible exact Below.refl _ _ | (with_reducible refine Below.alloc ?_ ?_ _; rotate_left; (focus (first | omega | (simp; done) | (simp; omega)))) | with_reducible apply Below.drew | (with_reducible refine Below.setCell ?_ ?_ _; rotate_left; (focus (first | omega | (simp; done) | (simp; omega)))))))
  have LH_W36 := Lib.hid (LH.out.below HL_W36.out)
  have HT_W36 := Lib.hid (HT.out.below HL_W36.out)
  clear HL_W36
  clear hW HK_W36
  clear HX1 HX2 HB hN hs0
  have hN := hN_W36
  have HB := HB_W36
  have hs0 := hs0_W36
  have hl_X := hl_X_W36
  have f_X := f_X_W36
  have HX_X := HX_X_W36
  have k_X_0 := k_X_0_W36
  have k_X_1 := k_X_1_W36
  have k_X_2 := k_X_2_W36
  have HX1 := HX1_W36
  have HX2 := HX2_W36
  clear hN_W36 HB_W36 hs0_W36 hl_X_W36 f_X_W36 HX_X_W36 k_X_0_W36 k_X_1_W36 k_X_2_W36 HX1_W36 HX2_W36
  clear LH HT
  have LH := LH_W36
  have HT := HT_W36
  clear LH_W36 HT_W36
  have lt_LH := LH.out.lt
  refine (Lower_ok (N := N) _ 4 _ hdist 1 _ hN ((LH.out).rs (by unfold maxLen; omega) 1 (fun i hi => rsz_small _ (aw_hs i hi).1 (aw_hs i hi).2)) (by decide) aw_hv 0 (by decide) (by decide) 1 (by decide) py HPy.out).mono ?_
  rintro e w37 ⟨ry, cy, ry2, cy2, rfl, hn, hn', hb⟩
  have LH_w37 := Lib.hid (LH.out.below hb)
  have HT_w37 := Lib.hid (HT.out.below hb)
  have hN_w37 : N ≤ w37.heap.size := Nat.le_trans hN hb.size
  have hs_w37 : W36.heap.size ≤ w37.heap.size := hb.size
  have hs0_w37 : w.heap.size ≤ w37.heap.size := Nat.le_trans hs0 hb.size
  have hl_X_w37 : w35.heap.size < w37.heap.size := Nat.lt_of_lt_of_le hl_X hb.size
  have k_X_0_w37 : w37.cell? ⟨w35.heap.size, 0, none⟩ = some (.bool (decide ((px).num < 0))) := (hb.cell (p := ⟨w35.heap.size, 0, none⟩) hl_X).trans k_X_0
  have k_X_1_w37 : w37.cell? ⟨w35.heap.size, 1, none⟩ = some (.slice rx (nlen (px).num.natAbs) cx) := (hb.cell (p := ⟨w35.heap.size, 1, none⟩) hl_X).trans k_X_1
  have k_X_2_w37 : w37.cell? ⟨w35.heap.size, 2, none⟩ = some (.slice rx2 (nlen (px).den) cx2) := (hb.cell (p := ⟨w35.heap.size, 2, none⟩) hl_X).trans k_X_2
  have f_X_w37 : ∀ o, w37.frozen? ⟨w35.heap.size, o, none⟩ = false := fun o => (hb.frozen (p := ⟨w35.heap.size, o, none⟩) hl_X).trans (f_X o)
  have HX_X_w37 := Lib.hid (HX_X.out.below hb)
  have HX1_w37 := Lib.hid (HX1.out.below hb)
  have HX2_w37 := Lib.hid (HX2.out.below hb)
  have HB_w37 := Lib.hid (HB.out.trans (hb.mono hs0))
  clear hb
  clear hl_X f_X HX_X k_X_0 k_X_1 k_X_2 HX1 HX2 HB hN hs0
  have hN := hN_w37
  have HB := HB_w37
  have hs0 := hs0_w37
  have hl_X := hl_X_w37
  have f_X := f_X_w37
  have HX_X := HX_X_w37
  have k_X_0 := k_X_0_w37
  have k_X_1 := k_X_1_w37
  have k_X_2 := k_X_2_w37
  have HX1 := HX1_w37
  have HX2 := HX2_w37
  clear hN_w37 HB_w37 hs0_w37 hl_X_w37 f_X_w37 HX_X_w37 k_X_0_w37 k_X_1_w37 k_X_2_w37 HX1_w37 HX2_w37
  clear LH HT
  have LH := LH_w37
  have HT := HT_w37
  clear LH_w37 HT_w37
  have HY1 := Lib.hid hn
  clear hn
  have HY2 := Lib.hid hn'
  clear hn'
  go_wp2_with fail
  refine calls_name fun W38 hW => ?_
  have HL_W38 := Lib.hid (show Below w37.heap.size w37 W38 by rw [← hW]; (repeat' (first | with_reducible exact Below.refl _ _ | (with_reducible refine Below.alloc ?_ ?_ _; rotate_left; (focus (first | omega | (simp; done) | (simp; omega)))) | with_reducible apply Below.drew | (with_reducible refine Below.setCell ?_ ?_ _; rotate_left; (focus (first | omega | (simp; done) | (simp; omega)))))))
  have hN_W38 : N ≤ W38.heap.size := by rw [← hW]; (first | omega | (simp; done) | (simp; omega))
  have hs_W38 : w37.heap.size ≤ W38.heap.size := by rw [← hW]; (first | omega | (simp; done) | (simp; omega))
  have hs0_W38 : w.heap.size ≤ W38.heap.size := by rw [← hW]; (first | omega | (simp; done) | (simp; omega))
  have hd_X_Y : w35.heap.size < w37.heap.size := by omega
  have hl_X_W38 : w35.heap.size < W38.heap.size := by rw [← hW]; (first | omega | (simp; done) | (simp; omega))
  have k_X_0_W38 : W38.cell? ⟨w35.heap.size, 0, none⟩ = some (.bool (decide ((px).num < 0))) := (HL_W38.out.cell (p := ⟨w35.heap.size, 0, none⟩) hl_X).trans k_X_0
  have k_X_1_W38 : W38.cell? ⟨w35.heap.size, 1, none⟩ = some (.slice rx (nlen (px).num.natAbs) cx) := (HL_W38.out.cell (p := ⟨w35.heap.size, 1, none⟩) hl_X).trans k_X_1
  have k_X_2_W38 : W38.cell? ⟨w35.heap.size, 2, none⟩ = some (.slice rx2 (nlen (px).den) cx2) := (HL_W38.out.cell (p := ⟨w35.heap.size, 2, none⟩) hl_X).trans k_X_2
  have f_X_W38 : ∀ o, W38.frozen? ⟨w35.heap.size, o, none⟩ = false := fun o => (HL_W38.out.frozen (p := ⟨w35.heap.size, o, none⟩) hl_X).trans (f_X o)
  have HX_X_W38 := Lib.hid (show Bn W38 (w35.heap.size) by rw [← hW]; (repeat' (first | with_reducible exact Kp.refl _ _ | with_reducible exact HX_X.out | with_reducible apply Kp.alloc | with_reducible apply Kp.drew | (with_reducible refine Kp.put ?_ ?_ ?_ _; rotate_left; (focus (first | omega | (simp; done) | (simp; omega))); rotate_left) | (with_reducible refine Bn.new _ _ _ _ ?_ ?_; (focus (first | omega | (simp; done) | (simp; omega))); decide) | with_reducible apply Bn.alloc | with_reducible apply Bn.drew | with_reducible apply Bn.set)))
  have hl_Y_W38 : w37.heap.size < W38.heap.size := by rw [← hW]; (first | omega | (simp; done) | (simp; omega))
  have k_Y_0_W38 : W38.cell? ⟨w37.heap.size, 0, none⟩ = some (.bool (decide ((py).num < 0))) := by rw [← hW]; (first | (go_simp; done) | (simp; done) | (simp [go_sem]; done) | (simp [go_sem, k_X_0, k_X_1, k_X_2, f_X, hl_X]; done))
  have k_Y_1_W38 : W38.cell? ⟨w37.heap.size, 1, none⟩ = some (.slice ry (nlen (py).num.natAbs) cy) := by rw [← hW]; (first | (go_simp; done) | (simp; done) | (simp [go_sem]; done) | (simp [go_sem, k_X_0, k_X_1, k_X_2, f_X, hl_X]; done))
  have k_Y_2_W38 : W38.cell? ⟨w37.heap.size, 2, none⟩ = some (.slice ry2 (nlen (py).den) cy2) := by rw [← hW]; (first | (go_simp; done) | (simp; done) | (simp [go_sem]; done) | (simp [go_sem, k_X_0, k_X_1, k_X_2, f_X, hl_X]; done))
  have f_Y_W38 : ∀ o, W38.frozen? ⟨w37.heap.size, o, none⟩ = false := by intro o; rw [← hW]; (first | (go_simp; done) | (simp; done) | (simp [go_sem]; done) | (simp [go_sem, k_X_0, k_X_1, k_X_2, f_X, hl_X]; done))
  have HX_Y_W38 := Lib.hid (show Bn W38 (w37.heap.size) by rw [← hW]; (repeat' (first | with_reducible exact Kp.refl _ _ | with_reducible exact HX_X.out | with_reducible apply Kp.alloc | with_reducible apply Kp.drew | (with_reducible refine Kp.put ?_ ?_ ?_ _; rotate_left; (focus (first | omega | (simp; done) | (simp; omega))); rotate_left) | (with_reducible refine Bn.new _ _ _ _ ?_ ?_; (focus (first | omega | (simp; done) | (simp; omega))); decide) | with_reducible apply Bn.alloc | with_reducible apply Bn.drew | with_reducible apply Bn.set)))
  have HK_W38 := Lib.hid (show Kp N w37 W38 by rw [← hW]; (repeat' (first | with_reducible exact Kp.refl _ _ | with_reducible exact HX_X.out | with_reducible apply Kp.alloc | with_reducible apply Kp.drew | (with_reducible refine Kp.put ?_ ?_ ?_ _; rotate_left; (focus (first | omega | (simp; done) | (simp; omega))); rotate_left) | (with_reducible refine Bn.new _ _ _ _ ?_ ?_; (focus (first | omega | (simp; done) | (simp; omega))); decide) | with_reducible apply Bn.alloc | with_reducible apply Bn.drew | with_reducible apply Bn.set)))
  have HX1_W38 := Lib.hid (HX1.out.keep HK_W38.out)
  have HX2_W38 := Lib.hid (HX2.out.keep HK_W38.out)
  have HY1_W38 := Lib.hid (HY1.out.keep HK_W38.out)
  have HY2_W38 := Lib.hid (HY2.out.keep HK_W38.out)
  have HB_W38 := Lib.hid (show Below w.heap.size w W38 by rw [← hW]; (repeat' (first | with_reducible exact Below.refl _ _ | with_reducible exact HB.out | (with_reducible refine Below.alloc ?_ ?_ _; rotate_left; (focus (first | omega | (simp; done) | (simp; omega)))) | with_reducible apply Below.drew | (with_reducible refine Below.setCell ?_ ?_ _; rotate_left; (focus (first | omega | (simp; done) | (simp; omega)))))))
  have LH_W38 := Lib.hid (LH.out.below HL_W38.out)
  have HT_W38 := Lib.hid (HT.out.below HL_W38.out)
  clear HL_W38
  clear hW HK_W38
  clear hl_X f_X HX_X k_X_0 k_X_1 k_X_2 HX1 HX2 HY1 HY2 HB hN hs0
  have hN := hN_W38
  have HB := HB_W38
  have hs0 := hs0_W38
  have hl_X := hl_X_W38
  have f_X := f_X_W38
  have HX_X := HX_X_W38
  have k_X_0 := k_X_0_W38
  have k_X_1 := k_X_1_W38
  have k_X_2 := k_X_2_W38
  have hl_Y := hl_Y_W38
  have f_Y := f_Y_W38
  have HX_Y := HX_Y_W38
  have k_Y_0 := k_Y_0_W38
  have k_Y_1 := k_Y_1_W38
  have k_Y_2 := k_Y_2_W38
  have HX1 := HX1_W38
  have HX2 := HX2_W38
  have HY1 := HY1_W38
  have HY2 := HY2_W38
  clear hN_W38 HB_W38 hs0_W38 hl_X_W38 f_X_W38 HX_X_W38 k_X_0_W38 k_X_1_W38 k_X_2_W38 hl_Y_W38 f_Y_W38 HX_Y_W38 k_Y_0_W38 k_Y_1_W38 k_Y_2_W38 HX1_W38 HX2_W38 HY1_W38 HY2_W38
  clear LH HT
  have LH := LH_W38
  have HT := HT_W38
  clear LH_W38 HT_W38
  have lt_LH := LH.out.lt
  refine (Both_in (N := N) _ 4 _ hdist 1 _ hN ((LH.out).rs (by unfold maxLen; omega) 1 (fun i hi => rsz_small _ (aw_hs i hi).1 (aw_hs i hi).2)) (by decide) aw_hv 0 (by decide) pz HPz.out).mono ?_
  rintro e w39 ⟨rz, cz, rz2, cz2, rfl, hn, hn', hb⟩
  have LH_w39 := Lib.hid (LH.out.below hb)
  have HT_w39 := Lib.hid (HT.out.below hb)
  have hN_w39 : N ≤ w39.heap.size := Nat.le_trans hN hb.size
  have hs_w39 : W38.heap.size ≤ w39.heap.size := hb.size
  have hs0_w39 : w.heap.size ≤ w39.heap.size := Nat.le_trans hs0 hb.size
  have hl_X_w39 : w35.heap.size < w39.heap.size := Nat.lt_of_lt_of_le hl_X hb.size
  have k_X_0_w39 : w39.cell? ⟨w35.heap.size, 0, none⟩ = some (.bool (decide ((px).num < 0))) := (hb.cell (p := ⟨w35.heap.size, 0, none⟩) hl_X).trans k_X_0
  have k_X_1_w39 : w39.cell? ⟨w35.heap.size, 1, none⟩ = some (.slice rx (nlen (px).num.natAbs) cx) := (hb.cell (p := ⟨w35.heap.size, 1, none⟩) hl_X).trans k_X_1
  have k_X_2_w39 : w39.cell? ⟨w35.heap.size, 2, none⟩ = some (.slice rx2 (nlen (px).den) cx2) := (hb.cell (p := ⟨w35.heap.size, 2, none⟩) hl_X).trans k_X_2
  have f_X_w39 : ∀ o, w39.frozen? ⟨w35.heap.size, o, none⟩ = false := fun o => (hb.frozen (p := ⟨w35.heap.size, o, none⟩) hl_X).trans (f_X o)
  have HX_X_w39 := Lib.hid (HX_X.out.below hb)
  have hl_Y_w39 : w37.heap.size < w39.heap.size := Nat.lt_of_lt_of_le hl_Y hb.size
  have k_Y_0_w39 : w39.cell? ⟨w37.heap.size, 0, none⟩ = some (.bool (decide ((py).num < 0))) := (hb.cell (p := ⟨w37.heap.size, 0, none⟩) hl_Y).trans k_Y_0
  have k_Y_1_w39 : w39.cell? ⟨w37.heap.size, 1, none⟩ = some (.slice ry (nlen (py).num.natAbs) cy) := (hb.cell (p := ⟨w37.heap.size, 1, none⟩) hl_Y).trans k_Y_1
  have k_Y_2_w39 : w39.cell? ⟨w37.heap.size, 2, none⟩ = some (.slice ry2 (nlen (py).den) cy2) := (hb.cell (p := ⟨w37.heap.size, 2, none⟩) hl_Y).trans k_Y_2
  have f_Y_w39 : ∀ o, w39.frozen? ⟨w37.heap.size, o, none⟩ = false := fun o => (hb.frozen (p := ⟨w37.heap.size, o, none⟩) hl_Y).trans (f_Y o)
  have HX_Y_w39 := Lib.hid (HX_Y.out.below hb)
  have HX1_w39 := Lib.hid (HX1.out.below hb)
  have HX2_w39 := Lib.hid (HX2.out.below hb)
  have HY1_w39 := Lib.hid (HY1.out.below hb)
  have HY2_w39 := Lib.hid (HY2.out.below hb)
  have HB_w39 := Lib.hid (HB.out.trans (hb.mono hs0))
  clear hb
  clear hl_X f_X HX_X k_X_0 k_X_1 k_X_2 hl_Y f_Y HX_Y k_Y_0 k_Y_1 k_Y_2 HX1 HX2 HY1 HY2 HB hN hs0
  have hN := hN_w39
  have HB := HB_w39
  have hs0 := hs0_w39
  have hl_X := hl_X_w39
  have f_X := f_X_w39
  have HX_X := HX_X_w39
  have k_X_0 := k_X_0_w39
  have k_X_1 := k_X_1_w39
  have k_X_2 := k_X_2_w39
  have hl_Y := hl_Y_w39
  have f_Y := f_Y_w39
  have HX_Y := HX_Y_w39
  have k_Y_0 := k_Y_0_w39
  have k_Y_1 := k_Y_1_w39
  have k_Y_2 := k_Y_2_w39
  have HX1 := HX1_w39
  have HX2 := HX2_w39
  have HY1 := HY1_w39
  have HY2 := HY2_w39
  clear hN_w39 HB_w39 hs0_w39 hl_X_w39 f_X_w39 HX_X_w39 k_X_0_w39 k_X_1_w39 k_X_2_w39 hl_Y_w39 f_Y_w39 HX_Y_w39 k_Y_0_w39 k_Y_1_w39 k_Y_2_w39 HX1_w39 HX2_w39 HY1_w39 HY2_w39
  clear LH HT
  have LH := LH_w39
  have HT := HT_w39
  clear LH_w39 HT_w39
  have HZ1 := Lib.hid hn
  clear hn
  have HZ2 := Lib.hid hn'
  clear hn'
  clear LH
  go_wp2_with fail
  refine calls_name fun W40 hW => ?_
  have HL_W40 := Lib.hid (show Below w39.heap.size w39 W40 by rw [← hW]; (repeat' (first | with_reducible exact Below.refl _ _ | (with_reducible refine Below.alloc ?_ ?_ _; rotate_left; (focus (first | omega | (simp; done) | (simp; omega)))) | with_reducible apply Below.drew | (with_reducible refine Below.setCell ?_ ?_ _; rotate_left; (focus (first | omega | (simp; done) | (simp; omega)))))))
  have hN_W40 : N ≤ W40.heap.size := by rw [← hW]; (first | omega | (simp; done) | (simp; omega))
  have hs_W40 : w39.heap.size ≤ W40.heap.size := by rw [← hW]; (first | omega | (simp; done) | (simp; omega))
  have hs0_W40 : w.heap.size ≤ W40.heap.size := by rw [← hW]; (first | omega | (simp; done) | (simp; omega))
  have hd_X_Z : w35.heap.size < w39.heap.size := by omega
  have hd_Y_Z : w37.heap.size < w39.heap.size := by omega
  have hl_X_W40 : w35.heap.size < W40.heap.size := by rw [← hW]; (first | omega | (simp; done) | (simp; omega))
  have k_X_0_W40 : W40.cell? ⟨w35.heap.size, 0, none⟩ = some (.bool (decide ((px).num < 0))) := (HL_W40.out.cell (p := ⟨w35.heap.size, 0, none⟩) hl_X).trans k_X_0
  have k_X_1_W40 : W40.cell? ⟨w35.heap.size, 1, none⟩ = some (.slice rx (nlen (px).num.natAbs) cx) := (HL_W40.out.cell (p := ⟨w35.heap.size, 1, none⟩) hl_X).trans k_X_1
  have k_X_2_W40 : W40.cell? ⟨w35.heap.size, 2, none⟩ = some (.slice rx2 (nlen (px).den) cx2) := (HL_W40.out.cell (p := ⟨w35.heap.size, 2, none⟩) hl_X).trans k_X_2
  have f_X_W40 : ∀ o, W40.frozen? ⟨w35.heap.size, o, none⟩ = false := fun o => (HL_W40.out.frozen (p := ⟨w35.heap.size, o, none⟩) hl_X).trans (f_X o)
  have HX_X_W40 := Lib.hid (show Bn W40 (w35.heap.size) by rw [← hW]; (repeat' (first | with_reducible exact Kp.refl _ _ | with_reducible exact HX_X.out | with_reducible exact HX_Y.out | with_reducible apply Kp.alloc | with_reducible apply Kp.drew | (with_reducible refine Kp.put ?_ ?_ ?_ _; rotate_left; (focus (first | omega | (simp; done) | (simp; omega))); rotate_left) | (with_reducible refine Bn.new _ _ _ _ ?_ ?_; (focus (first | omega | (simp; done) | (simp; omega))); decide) | with_reducible apply Bn.alloc | with_reducible apply Bn.drew | with_reducible apply Bn.set)))
  have hl_Y_W40 : w37.heap.size < W40.heap.size := by rw [← hW]; (first | omega | (simp; done) | (simp; omega))
  have k_Y_0_W40 : W40.cell? ⟨w37.heap.size, 0, none⟩ = some (.bool (decide ((py).num < 0))) := (HL_W40.out.cell (p := ⟨w37.heap.size, 0, none⟩) hl_Y).trans k_Y_0
  have k_Y_1_W40 : W40.cell? ⟨w37.heap.size, 1, none⟩ = some (.slice ry (nlen (py).num.natAbs) cy) := (HL_W40.out.cell (p := ⟨w37.heap.size, 1, none⟩) hl_Y).trans k_Y_1
  have k_Y_2_W40 : W40.cell? ⟨w37.heap.size, 2, none⟩ = some (.slice ry2 (nlen (py).den) cy2) := (HL_W40.out.cell (p := ⟨w37.heap.size, 2, none⟩) hl_Y).trans k_Y_2
  have f_Y_W40 : ∀ o, W40.frozen? ⟨w37.heap.size, o, none⟩ = false := fun o => (HL_W40.out.frozen (p := ⟨w37.heap.size, o, none⟩) hl_Y).trans (f_Y o)
  have HX_Y_W40 := Lib.hid (show Bn W40 (w37.heap.size) by rw [← hW]; (repeat' (first | with_reducible exact Kp.refl _ _ | with_reducible exact HX_X.out | with_reducible exact HX_Y.out | with_reducible apply Kp.alloc | with_reducible apply Kp.drew | (with_reducible refine Kp.put ?_ ?_ ?_ _; rotate_left; (focus (first | omega | (simp; done) | (simp; omega))); rotate_left) | (with_reducible refine Bn.new _ _ _ _ ?_ ?_; (focus (first | omega | (simp; done) | (simp; omega))); decide) | with_reducible apply Bn.alloc | with_reducible apply Bn.drew | with_reducible apply Bn.set)))
  have hl_Z_W40 : w39.heap.size < W40.heap.size := by rw [← hW]; (first | omega | (simp; done) | (simp; omega))
  have k_Z_0_W40 : W40.cell? ⟨w39.heap.size, 0, none⟩ = some (.bool (decide ((pz).num < 0))) := by rw [← hW]; (first | (go_simp; done) | (simp; done) | (simp [go_sem]; done) | (simp [go_sem, k_X_0, k_X_1, k_X_2, k_Y_0, k_Y_1, k_Y_2, f_X, f_Y, hl_X, hl_Y]; done))
  have k_Z_1_W40 : W40.cell? ⟨w39.heap.size, 1, none⟩ = some (.slice rz (nlen (pz).num.natAbs) cz) := by rw [← hW]; (first | (go_simp; done) | (simp; done) | (simp [go_sem]; done) | (simp [go_sem, k_X_0, k_X_1, k_X_2, k_Y_0, k_Y_1, k_Y_2, f_X, f_Y, hl_X, hl_Y]; done))
  have k_Z_2_W40 : W40.cell? ⟨w39.heap.size, 2, none⟩ = some (.slice rz2 (nlen (pz).den) cz2) := by rw [← hW]; (first | (go_simp; done) | (simp; done) | (simp [go_sem]; done) | (simp [go_sem, k_X_0, k_X_1, k_X_2, k_Y_0, k_Y_1, k_Y_2, f_X, f_Y, hl_X, hl_Y]; done))
  have f_Z_W40 : ∀ o, W40.frozen? ⟨w39.heap.size, o, none⟩ = false := by intro o; rw [← hW]; (first | (go_simp; done) | (simp; done) | (simp [go_sem]; done) | (simp [go_sem, k_X_0, k_X_1, k_X_2, k_Y_0, k_Y_1, k_Y_2, f_X, f_Y, hl_X, hl_Y]; done))
  have HX_Z_W40 := Lib.hid (show Bn W40 (w39.heap.size) by rw [← hW]; (repeat' (first | with_reducible exact Kp.refl _ _ | with_reducible exact HX_X.out | with_reducible exact HX_Y.out | with_reducible apply Kp.alloc | with_reducible apply Kp.drew | (with_reducible refine Kp.put ?_ ?_ ?_ _; rotate_left; (focus (first | omega | (simp; done) | (simp; omega))); rotate_left) | (with_reducible refine Bn.new _ _ _ _ ?_ ?_; (focus (first | omega | (simp; done) | (simp; omega))); decide) | with_reducible apply Bn.alloc | with_reducible apply Bn.drew | with_reducible apply Bn.set)))
  have HK_W40 := Lib.hid (show Kp N w39 W40 by rw [← hW]; (repeat' (first | with_reducible exact Kp.refl _ _ | with_reducible exact HX_X.out | with_reducible exact HX_Y.out | with_reducible apply Kp.alloc | with_reducible apply Kp.drew | (with_reducible refine Kp.put ?_ ?_ ?_ _; rotate_left; (focus (first | omega | (simp; done) | (simp; omega))); rotate_left) | (with_reducible refine Bn.new _ _ _ _ ?_ ?_; (focus (first | omega | (simp; done) | (simp; omega))); decide) | with_reducible apply Bn.alloc | with_reducible apply Bn.drew | with_reducible apply Bn.set)))
  have HX1_W40 := Lib.hid (HX1.out.keep HK_W40.out)
  have HX2_W40 := Lib.hid (HX2.out.keep HK_W40.out)
  have HY1_W40 := Lib.hid (HY1.out.keep HK_W40.out)
  have HY2_W40 := Lib.hid (HY2.out.keep HK_W40.out)
  have HZ1_W40 := Lib.hid (HZ1.out.keep HK_W40.out)
  have HZ2_W40 := Lib.hid (HZ2.out.keep HK_W40.out)
  have HB_W40 := Lib.hid (show Below w.heap.size w W40 by rw [← hW]; (repeat' (first | with_reducible exact Below.refl _ _ | with_reducible exact HB.out | (with_reducible refine Below.alloc ?_ ?_ _; rotate_left; (focus (first | omega | (simp; done) | (simp; omega)))) | with_reducible apply Below.drew | (with_reducible refine Below.setCell ?_ ?_ _; rotate_left; (focus (first | omega | (simp; done) | (simp; omega)))))))
  have HR_W40 := Lib.hid (show Rs N W40 (some ⟨w39.heap.size + 1, 0, none⟩) 3 3 (sel3 px py pz) 1 by rw [← hW]; refine Rs.below ?_ (bel1 _ _); exact Rs.three _ (by simp) ((Rt.of_norm HX1.out HX2.out 1 Hzx.out).alloc _) ((Rt.of_norm HY1.out HY2.out 1 Hzy.out).alloc _) ((Rt.of_norm HZ1.out HZ2.out 1 Hzz.out).alloc _))
  have HS_W40 := Lib.hid (show Ss W40 (some ⟨w39.heap.size + 1 + 1, 0, none⟩) 3 3 (sel3 ⟨#[49, 47, 50]⟩ ⟨#[49, 47, 56]⟩ ⟨#[49, 47, 52]⟩) by rw [← hW]; exact Ss.three _ _ (by simp) _ _ _)
  have HT_W40 := Lib.hid (HT.out.below HL_W40.out)
  clear HL_W40
  clear hW HK_W40
  clear hl_X f_X HX_X k_X_0 k_X_1 k_X_2 hl_Y f_Y HX_Y k_Y_0 k_Y_1 k_Y_2 HX1 HX2 HY1 HY2 HZ1 HZ2 HB hN hs0
  have hN := hN_W40
  have HB := HB_W40
  have hs0 := hs0_W40
  have hl_X := hl_X_W40
  have f_X := f_X_W40
  have HX_X := HX_X_W40
  have k_X_0 := k_X_0_W40
  have k_X_1 := k_X_1_W40
  have k_X_2 := k_X_2_W40
  have hl_Y := hl_Y_W40
  have f_Y := f_Y_W40
  have HX_Y := HX_Y_W40
  have k_Y_0 := k_Y_0_W40
  have k_Y_1 := k_Y_1_W40
  have k_Y_2 := k_Y_2_W40
  have hl_Z := hl_Z_W40
  have f_Z := f_Z_W40
  have HX_Z := HX_Z_W40
  have k_Z_0 := k_Z_0_W40
  have k_Z_1 := k_Z_1_W40
  have k_Z_2 := k_Z_2_W40
  have HX1 := HX1_W40
  have HX2 := HX2_W40
  have HY1 := HY1_W40
  have HY2 := HY2_W40
  have HZ1 := HZ1_W40
  have HZ2 := HZ2_W40
  clear hN_W40 HB_W40 hs0_W40 hl_X_W40 f_X_W40 HX_X_W40 k_X_0_W40 k_X_1_W40 k_X_2_W40 hl_Y_W40 f_Y_W40 HX_Y_W40 k_Y_0_W40 k_Y_1_W40 k_Y_2_W40 hl_Z_W40 f_Z_W40 HX_Z_W40 k_Z_0_W40 k_Z_1_W40 k_Z_2_W40 HX1_W40 HX2_W40 HY1_W40 HY2_W40 HZ1_W40 HZ2_W40
  clear HT
  have HT := HT_W40
  clear HT_W40
  refine (is_any (N := N) _ _ 3 _ _ (sel3 px py pz) _ 1 _ hN HR_W40.out HS_W40.out (by decide) HT.out (sel3_tx (by rw [← HPx.out, aw_x]; exact tx12) (by rw [← HPy.out, aw_y]; exact tx18) (by rw [← HPz.out, aw_z]; exact tx14))).mono ?_
  rintro e w41 ⟨rfl, hb⟩
  have HT_w41 := Lib.hid (HT.out.below hb)
  have hN_w41 : N ≤ w41.heap.size := Nat.le_trans hN hb.size
  have hs_w41 : W40.heap.size ≤ w41.heap.size := hb.size
  have hs0_w41 : w.heap.size ≤ w41.heap.size := Nat.le_trans hs0 hb.size
  have hl_X_w41 : w35.heap.size < w41.heap.size := Nat.lt_of_lt_of_le hl_X hb.size
  have k_X_0_w41 : w41.cell? ⟨w35.heap.size, 0, none⟩ = some (.bool (decide ((px).num < 0))) := (hb.cell (p := ⟨w35.heap.size, 0, none⟩) hl_X).trans k_X_0
  have k_X_1_w41 : w41.cell? ⟨w35.heap.size, 1, none⟩ = some (.slice rx (nlen (px).num.natAbs) cx) := (hb.cell (p := ⟨w35.heap.size, 1, none⟩) hl_X).trans k_X_1
  have k_X_2_w41 : w41.cell? ⟨w35.heap.size, 2, none⟩ = some (.slice rx2 (nlen (px).den) cx2) := (hb.cell (p := ⟨w35.heap.size, 2, none⟩) hl_X).trans k_X_2
  have f_X_w41 : ∀ o, w41.frozen? ⟨w35.heap.size, o, none⟩ = false := fun o => (hb.frozen (p := ⟨w35.heap.size, o, none⟩) hl_X).trans (f_X o)
  have HX_X_w41 := Lib.hid (HX_X.out.below hb)
  have hl_Y_w41 : w37.heap.size < w41.heap.size := Nat.lt_of_lt_of_le hl_Y hb.size
  have k_Y_0_w41 : w41.cell? ⟨w37.heap.size, 0, none⟩ = some (.bool (decide ((py).num < 0))) := (hb.cell (p := ⟨w37.heap.size, 0, none⟩) hl_Y).trans k_Y_0
  have k_Y_1_w41 : w41.cell? ⟨w37.heap.size, 1, none⟩ = some (.slice ry (nlen (py).num.natAbs) cy) := (hb.cell (p := ⟨w37.heap.size, 1, none⟩) hl_Y).trans k_Y_1
  have k_Y_2_w41 : w41.cell? ⟨w37.heap.size, 2, none⟩ = some (.slice ry2 (nlen (py).den) cy2) := (hb.cell (p := ⟨w37.heap.size, 2, none⟩) hl_Y).trans k_Y_2
  have f_Y_w41 : ∀ o, w41.frozen? ⟨w37.heap.size, o, none⟩ = false := fun o => (hb.frozen (p := ⟨w37.heap.size, o, none⟩) hl_Y).trans (f_Y o)
  have HX_Y_w41 := Lib.hid (HX_Y.out.below hb)
  have hl_Z_w41 : w39.heap.size < w41.heap.size := Nat.lt_of_lt_of_le hl_Z hb.size
  have k_Z_0_w41 : w41.cell? ⟨w39.heap.size, 0, none⟩ = some (.bool (decide ((pz).num < 0))) := (hb.cell (p := ⟨w39.heap.size, 0, none⟩) hl_Z).trans k_Z_0
  have k_Z_1_w41 : w41.cell? ⟨w39.heap.size, 1, none⟩ = some (.slice rz (nlen (pz).num.natAbs) cz) := (hb.cell (p := ⟨w39.heap.size, 1, none⟩) hl_Z).trans k_Z_1
  have k_Z_2_w41 : w41.cell? ⟨w39.heap.size, 2, none⟩ = some (.slice rz2 (nlen (pz).den) cz2) := (hb.cell (p := ⟨w39.heap.size, 2, none⟩) hl_Z).trans k_Z_2
  have f_Z_w41 : ∀ o, w41.frozen? ⟨w39.heap.size, o, none⟩ = false := fun o => (hb.frozen (p := ⟨w39.heap.size, o, none⟩) hl_Z).trans (f_Z o)
  have HX_Z_w41 := Lib.hid (HX_Z.out.below hb)
  have HX1_w41 := Lib.hid (HX1.out.below hb)
  have HX2_w41 := Lib.hid (HX2.out.below hb)
  have HY1_w41 := Lib.hid (HY1.out.below hb)
  have HY2_w41 := Lib.hid (HY2.out.below hb)
  have HZ1_w41 := Lib.hid (HZ1.out.below hb)
  have HZ2_w41 := Lib.hid (HZ2.out.below hb)
  have HB_w41 := Lib.hid (HB.out.trans (hb.mono hs0))
  clear hb
  clear hl_X f_X HX_X k_X_0 k_X_1 k_X_2 hl_Y f_Y HX_Y k_Y_0 k_Y_1 k_Y_2 hl_Z f_Z HX_Z k_Z_0 k_Z_1 k_Z_2 HX1 HX2 HY1 HY2 HZ1 HZ2 HB hN hs0
  have hN := hN_w41
  have HB := HB_w41
  have hs0 := hs0_w41
  have hl_X := hl_X_w41
  have f_X := f_X_w41
  have HX_X := HX_X_w41
  have k_X_0 := k_X_0_w41
  have k_X_1 := k_X_1_w41
  have k_X_2 := k_X_2_w41
  have hl_Y := hl_Y_w41
  have f_Y := f_Y_w41
  have HX_Y := HX_Y_w41
  have k_Y_0 := k_Y_0_w41
  have k_Y_1 := k_Y_1_w41
  have k_Y_2 := k_Y_2_w41
  have hl_Z := hl_Z_w41
  have f_Z := f_Z_w41
  have HX_Z := HX_Z_w41
  have k_Z_0 := k_Z_0_w41
  have k_Z_1 := k_Z_1_w41
  have k_Z_2 := k_Z_2_w41
  have HX1 := HX1_w41
  have HX2 := HX2_w41
  have HY1 := HY1_w41
  have HY2 := HY2_w41
  have HZ1 := HZ1_w41
  have HZ2 := HZ2_w41
  clear hN_w41 HB_w41 hs0_w41 hl_X_w41 f_X_w41 HX_X_w41 k_X_0_w41 k_X_1_w41 k_X_2_w41 hl_Y_w41 f_Y_w41 HX_Y_w41 k_Y_0_w41 k_Y_1_w41 k_Y_2_w41 hl_Z_w41 f_Z_w41 HX_Z_w41 k_Z_0_w41 k_Z_1_w41 k_Z_2_w41 HX1_w41 HX2_w41 HY1_w41 HY2_w41 HZ1_w41 HZ2_w41
  clear HT
  have HT := HT_w41
  clear HT_w41
  clear hl_X f_X HX_X k_X_0 k_X_1 k_X_2
  clear hl_Y f_Y HX_Y k_Y_0 k_Y_1 k_Y_2
  clear hl_Z f_Z HX_Z k_Z_0 k_Z_1 k_Z_2
  clear HX1
  clear HX2
  clear HY1
  clear HY2
  clear HZ1
  clear HZ2
  go_wp2_with fail
  refine (part_any (N := N) 2 1 _ hN (by decide) (by decide) _ rfl).mono ?_
  rintro e w42 ⟨aa, da, rfl, hn, hb⟩
  have HT_w42 := Lib.hid (HT.out.below hb)
  have hN_w42 : N ≤ w42.heap.size := Nat.le_trans hN hb.size
  have hs_w42 : w41.heap.size ≤ w42.heap.size := hb.size
  have hs0_w42 : w.heap.size ≤ w42.heap.size := Nat.le_trans hs0 hb.size
  have HB_w42 := Lib.hid (HB.out.trans (hb.mono hs0))
  clear hb
  clear HB hN hs0
  have hN := hN_w42
  have HB := HB_w42
  have hs0 := hs0_w42
  clear hN_w42 HB_w42 hs0_w42
  clear HT
  have HT := HT_w42
  clear HT_w42
  have HQa := Lib.hid hn
  clear hn
  go_wp2_with fail
  refine (binomial_bad (N := N) 121 _ _ _ _ _ _ _ 1 (frq 2 1) _ hN HQa.out (by decide) pr21).mono ?_
  rintro e w43 ⟨rfl, hb⟩
  have HT_w43 := Lib.hid (HT.out.below hb)
  have hN_w43 : N ≤ w43.heap.size := Nat.le_trans hN hb.size
  have hs_w43 : w42.heap.size ≤ w43.heap.size := hb.size
  have hs0_w43 : w.heap.size ≤ w43.heap.size := Nat.le_trans hs0 hb.size
  have HQa_w43 := Lib.hid (HQa.out.below hb)
  have HB_w43 := Lib.hid (HB.out.trans (hb.mono hs0))
  clear hb
  clear HQa HB hN hs0
  have hN := hN_w43
  have HB := HB_w43
  have hs0 := hs0_w43
  have HQa := HQa_w43
  clear hN_w43 HB_w43 hs0_w43 HQa_w43
  clear HT
  have HT := HT_w43
  clear HT_w43
  clear HQa
  go_wp2_with fail
  refine (part_any (N := N) 1 2 _ hN (by decide) (by decide) _ rfl).mono ?_
  rintro e w44 ⟨aa, da, rfl, hn, hb⟩
  have HT_w44 := Lib.hid (HT.out.below hb)
  have hN_w44 : N ≤ w44.heap.size := Nat.le_trans hN hb.size
  have hs_w44 : w43.heap.size ≤ w44.heap.size := hb.size
  have hs0_w44 : w.heap.size ≤ w44.heap.size := Nat.le_trans hs0 hb.size
  have HB_w44 := Lib.hid (HB.out.trans (hb.mono hs0))
  clear hb
  clear HB hN hs0
  have hN := hN_w44
  have HB := HB_w44
  have hs0 := hs0_w44
  clear hN_w44 HB_w44 hs0_w44
  clear HT
  have HT := HT_w44
  clear HT_w44
  have HQa := Lib.hid hn
  clear hn
  go_wp2_with fail
  refine (binomial_range (N := N) 121 _ _ _ _ _ _ _ 1 (frq 1 2) _ hN HQa.out (by decide) pr12 (by decide)).mono ?_
  rintro e w45 ⟨rfl, hb⟩
  have HT_w45 := Lib.hid (HT.out.below hb)
  have hN_w45 : N ≤ w45.heap.size := Nat.le_trans hN hb.size
  have hs_w45 : w44.heap.size ≤ w45.heap.size := hb.size
  have hs0_w45 : w.heap.size ≤ w45.heap.size := Nat.le_trans hs0 hb.size
  have HQa_w45 := Lib.hid (HQa.out.below hb)
  have HB_w45 := Lib.hid (HB.out.trans (hb.mono hs0))
  clear hb
  clear HQa HB hN hs0
  have hN := hN_w45
  have HB := HB_w45
  have hs0 := hs0_w45
  have HQa := HQa_w45
  clear hN_w45 HB_w45 hs0_w45 HQa_w45
  clear HT
  have HT := HT_w45
  clear HT_w45
  go_wp2_with fail
  go_ret
  exact ⟨rfl, HB.out⟩

end Go.Proofs.YtbjgnpgachdlaaaDoor
