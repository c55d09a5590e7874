/- The examples of the chapter: law07's awake returns true. The table of powers of ten must lie in memory. -/
import Derived.Test.YtbjgnpgachdlaaaGreatDoorExT
namespace Go.Proofs.YtbjgnpgachdlaaaGreatDoor
open Go.RowKit

theorem rsz_small (q : Rat) (h1 : q.num.natAbs < 4294967296) (h2 : q.den < 4294967296) : rsz q ≤ 1 := by
  have a := nlen_small h1
  have b := nlen_small h2
  unfold rsz; omega
theorem txt_small (q : Rat) (a b : Nat) (h0 : 0 ≤ q.num) (h1 : q.num.natAbs = a) (h2 : q.den = b) (ha : a < 10) (hb : b < 10) (h3 : ¬ b = 1) : Tx q ⟨#[UInt8.ofNat (48 + a), 47, UInt8.ofNat (48 + b)]⟩ := by
  refine ⟨h0, by omega, by omega, ?_⟩
  unfold txt
  rw [h1, h2, if_neg h3, Lib.decDigits_one ha, Lib.decDigits_one hb]; rfl
theorem txt_zero7 : Tx 0 ⟨#[48]⟩ := by
  refine ⟨by decide, by decide, by decide, ?_⟩
  unfold txt
  rw [if_pos (show (0 : Rat).den = 1 from rfl), show (0 : Rat).num.natAbs = 0 from rfl, Lib.decDigits_one (by omega)]; rfl
theorem txt_1736 : Tx (mkRat 17 36) ⟨#[49, 55, 47, 51, 54]⟩ := by
  refine ⟨by decide +kernel, by decide +kernel, by decide +kernel, ?_⟩
  unfold txt
  rw [show (mkRat 17 36).num.natAbs = 17 by decide +kernel, show (mkRat 17 36).den = 36 by decide +kernel, if_neg (by decide), Lib.decDigits_two (by decide) (by decide), Lib.decDigits_two (by decide) (by decide)]; rfl
theorem tx49 : Tx (mkRat 4 9) ⟨#[52, 47, 57]⟩ := txt_small _ 4 9 (by decide +kernel) (by decide +kernel) (by decide +kernel) (by decide) (by decide) (by decide)
theorem tx19 : Tx (mkRat 1 9) ⟨#[49, 47, 57]⟩ := txt_small _ 1 9 (by decide +kernel) (by decide +kernel) (by decide +kernel) (by decide) (by decide) (by decide)
theorem tx23 : Tx (mkRat 2 3) ⟨#[50, 47, 51]⟩ := txt_small _ 2 3 (by decide +kernel) (by decide +kernel) (by decide +kernel) (by decide) (by decide) (by decide)
theorem tx13 : Tx (mkRat 1 3) ⟨#[49, 47, 51]⟩ := txt_small _ 1 3 (by decide +kernel) (by decide +kernel) (by decide +kernel) (by decide) (by decide) (by decide)
theorem tx12 : Tx (mkRat 1 2) ⟨#[49, 47, 50]⟩ := txt_small _ 1 2 (by decide +kernel) (by decide +kernel) (by decide +kernel) (by decide) (by decide) (by decide)
theorem tx16 : Tx (mkRat 1 6) ⟨#[49, 47, 54]⟩ := txt_small _ 1 6 (by decide +kernel) (by decide +kernel) (by decide +kernel) (by decide) (by decide) (by decide)
theorem tx14 : Tx (mkRat 1 4) ⟨#[49, 47, 52]⟩ := txt_small _ 1 4 (by decide +kernel) (by decide +kernel) (by decide +kernel) (by decide) (by decide) (by decide)
theorem tx56 : Tx (mkRat 5 6) ⟨#[53, 47, 54]⟩ := txt_small _ 5 6 (by decide +kernel) (by decide +kernel) (by decide +kernel) (by decide) (by decide) (by decide)
theorem tx18 : Tx (mkRat 1 8) ⟨#[49, 47, 56]⟩ := txt_small _ 1 8 (by decide +kernel) (by decide +kernel) (by decide +kernel) (by decide) (by decide) (by decide)

def hdist (i : Nat) : Rat := if i = 0 then (mkRat 1 8) else if i = 1 then (mkRat 3 8) else if i = 2 then (mkRat 3 8) else (mkRat 1 8)
theorem aw_a : ∀ i, i < 2 + 1 → frq (binN (nuQ1 (frq 1 3)) (faQ1 (frq 1 3)) 2 i) ((frq 1 3).den ^ 2) = (sel3 (mkRat 4 9) (mkRat 4 9) (mkRat 1 9)) i := by decide +kernel
theorem aw_b : ∀ i, i < 3 → frq (hyp 3 2 2 i) (chs 3 2) = (sel3 0 (mkRat 2 3) (mkRat 1 3)) i := by decide +kernel
theorem aw_c : ∀ i, i < 2 + 1 → frq (trN (nuQ (sel3 (frq 1 2) (frq 1 3) 0)) (faQ (sel3 (frq 1 2) (frq 1 3) 0)) 2 i) (prN (deQ (sel3 (frq 1 2) (frq 1 3) 0)) 2) = (sel3 (mkRat 1 3) (mkRat 1 2) (mkRat 1 6)) i := by decide +kernel
theorem aw_cp : ∀ j, j < 2 → prb (sel3 (frq 1 2) (frq 1 3) 0 j) = true := by decide +kernel
theorem aw_d : ∀ k, k < 3 → cnv (sel3 (frq 1 2) (frq 2 4) 0) 2 (sel3 (frq 1 2) (frq 1 2) 0) 2 k = (sel3 (mkRat 1 4) (mkRat 1 2) (mkRat 1 4)) k := by decide +kernel
theorem aw_d1 : valid (sel3 (frq 1 2) (frq 2 4) 0) 2 = true := by decide +kernel
theorem aw_d2 : valid (sel3 (frq 1 2) (frq 1 2) 0) 2 = true := by decide +kernel
theorem aw_v : valid (sel3 (mkRat 1 3) (mkRat 1 2) (mkRat 1 6)) 3 = true := by decide +kernel
theorem aw_nv : valid (sel3 (frq 1 2) (frq 1 3) 0) 2 = false := by decide +kernel
theorem aw_m : meanQ (sel3 (mkRat 1 3) (mkRat 1 2) (mkRat 1 6)) 3 = (mkRat 5 6) := by decide +kernel
theorem aw_s : varQ (sel3 (mkRat 1 3) (mkRat 1 2) (mkRat 1 6)) 3 = (mkRat 17 36) := by decide +kernel
theorem aw_h : ∀ i, i < 3 + 1 → frq (binN (nuQ1 (frq 1 2)) (faQ1 (frq 1 2)) 3 i) ((frq 1 2).den ^ 3) = hdist i := by decide +kernel
theorem aw_hv : valid hdist 4 = true := by decide +kernel
theorem aw_x : upQ hdist 4 2 = (mkRat 1 2) := by decide +kernel
theorem aw_y : sQ hdist 1 = (mkRat 1 8) := by decide +kernel
theorem aw_z : bothQ hdist 4 0 = (mkRat 1 4) := by decide +kernel
theorem aw_hs : ∀ i, i < 4 → (hdist i).num.natAbs < 4294967296 ∧ (hdist i).den < 4294967296 := by decide +kernel
theorem aw_as : ∀ i, i < 3 → ((sel3 (mkRat 4 9) (mkRat 4 9) (mkRat 1 9)) i).num.natAbs < 4294967296 ∧ ((sel3 (mkRat 4 9) (mkRat 4 9) (mkRat 1 9)) i).den < 4294967296 := by decide +kernel
theorem aw_bs : ∀ i, i < 3 → ((sel3 0 (mkRat 2 3) (mkRat 1 3)) i).num.natAbs < 4294967296 ∧ ((sel3 0 (mkRat 2 3) (mkRat 1 3)) i).den < 4294967296 := by decide +kernel
theorem aw_cs : ∀ i, i < 3 → ((sel3 (mkRat 1 3) (mkRat 1 2) (mkRat 1 6)) i).num.natAbs < 4294967296 ∧ ((sel3 (mkRat 1 3) (mkRat 1 2) (mkRat 1 6)) i).den < 4294967296 := by decide +kernel
theorem aw_ds : ∀ i, i < 3 → ((sel3 (mkRat 1 4) (mkRat 1 2) (mkRat 1 4)) i).num.natAbs < 4294967296 ∧ ((sel3 (mkRat 1 4) (mkRat 1 2) (mkRat 1 4)) i).den < 4294967296 := by decide +kernel
theorem sel3_tx {x y z : Rat} {s t u : ByteArray} (h1 : Tx x s) (h2 : Tx y t) (h3 : Tx z u) : ∀ i, i < 3 → Tx (sel3 x y z i) (sel3 s t u i) := by
  intro i hi
  obtain rfl | rfl | rfl : i = 0 ∨ i = 1 ∨ i = 2 := by omega
  · exact h1
  · exact h2
  · exact h3
theorem sel2_tx {x y z : Rat} {s t u : ByteArray} (h1 : Tx x s) (h2 : Tx y t) : ∀ i, i < 2 → Tx (sel3 x y z i) (sel3 s t u i) := by
  intro i hi
  obtain rfl | rfl : i = 0 ∨ i = 1 := by omega
  · exact h1
  · exact h2
theorem pr13 : prb (frq 1 3) = true := by decide +kernel
theorem pr12 : prb (frq 1 2) = true := by decide +kernel
theorem pr21 : prb (frq 2 1) = false := by decide +kernel

set_option maxRecDepth 100000 in
set_option maxHeartbeats 40000000 in
theorem awake_any {N : Nat} (w : World) (hN : N ≤ w.heap.size) (htab : TabW w) :
    Calls Tryz.prog 14 #[] w fun e w' => e = .returned (.bool true) ∧ Below w.heap.size w w' := by
  obtain ⟨pm, hpm⟩ : ∃ p, meanQ (sel3 (mkRat 1 3) (mkRat 1 2) (mkRat 1 6)) 3 = p := ⟨_, rfl⟩
  have HPm := Lib.hid hpm
  have Hzm := Lib.hid (show rsz pm ≤ 1 by rw [← hpm, aw_m]; exact rsz_small _ (by decide +kernel) (by decide +kernel))
  clear hpm
  obtain ⟨pv, hpv⟩ : ∃ p, varQ (sel3 (mkRat 1 3) (mkRat 1 2) (mkRat 1 6)) 3 = p := ⟨_, rfl⟩
  have HPv := Lib.hid hpv
  have Hzv := Lib.hid (show rsz pv ≤ 1 by rw [← hpv, aw_s]; exact rsz_small _ (by decide +kernel) (by decide +kernel))
  clear hpv
  obtain ⟨px, hpx⟩ : ∃ p, upQ hdist 4 2 = p := ⟨_, rfl⟩
  have HPx := Lib.hid hpx
  have Hzx := Lib.hid (show rsz px ≤ 1 by rw [← hpx, aw_x]; exact rsz_small _ (by decide +kernel) (by decide +kernel))
  clear hpx
  obtain ⟨py, hpy⟩ : ∃ p, sQ hdist 1 = p := ⟨_, rfl⟩
  have HPy := Lib.hid hpy
  have Hzy := Lib.hid (show rsz py ≤ 1 by rw [← hpy, aw_y]; exact rsz_small _ (by decide +kernel) (by decide +kernel))
  clear hpy
  obtain ⟨pz, hpz⟩ : ∃ p, bothQ hdist 4 0 = p := ⟨_, rfl⟩
  have HPz := Lib.hid hpz
  have Hzz := Lib.hid (show rsz pz ≤ 1 by rw [← hpz, aw_z]; exact rsz_small _ (by decide +kernel) (by decide +kernel))
  clear hpz
  have hN0 := hN
  have HT := Lib.hid htab
  clear htab
  have HB := Lib.hid (Below.refl w.heap.size w)
  go_enter Tryz.func14, Tryz.ntmps14
  go_wp2_with fail
  refine calls_name fun W0 hW => ?_
  have hs_W0 : w.heap.size ≤ W0.heap.size := by rw [← hW]; (first | omega | (simp; done) | (simp; omega))
  have HL_W0 := Lib.hid (show Below w.heap.size w W0 by rw [← hW]; exact BlA)
  replace HB := Lib.hid (show Below w.heap.size w W0 by rw [← hW]; exact BlA)
  replace hN : N ≤ W0.heap.size := by rw [← hW]; (first | omega | (simp; done) | (simp; omega))
  have hs0 : w.heap.size ≤ W0.heap.size := by rw [← hW]; (first | omega | (simp; done) | (simp; omega))
  replace HT := Lib.hid (HT.out.below HL_W0.out)
  clear HL_W0
  clear hW
  refine (part_any (N := N) 1 3 _ hN (by decide) (by decide) _ rfl).mono ?_
  rintro e w1 ⟨aa, da, rfl, hn, hb⟩
  have hs_w1 : W0.heap.size ≤ w1.heap.size := hb.size
  replace HB := Lib.hid (HB.out.trans (hb.mono hs0))
  replace hN : N ≤ w1.heap.size := Nat.le_trans hN hb.size
  replace hs0 : w.heap.size ≤ w1.heap.size := Nat.le_trans hs0 hb.size
  replace HT := Lib.hid (HT.out.below hb)
  clear hb
  have HQa := Lib.hid hn
  clear hn
  go_wp2_with fail
  refine (binomial_ok (N := N) 2 _ _ _ _ _ _ _ 1 (frq 1 3) _ hN HQa.out (by decide) pr13 (by decide) (sel3 (mkRat 4 9) (mkRat 4 9) (mkRat 1 9)) aw_a).mono ?_
  rintro e w2 ⟨ba, rfl, ba1, ba2, hl, hb⟩
  have hs_w2 : w1.heap.size ≤ w2.heap.size := hb.size
  replace HQa := Lib.hid (HQa.out.below hb)
  replace HB := Lib.hid (HB.out.trans (hb.mono hs0))
  replace hN : N ≤ w2.heap.size := Nat.le_trans hN hb.size
  replace hs0 : w.heap.size ≤ w2.heap.size := Nat.le_trans hs0 hb.size
  replace HT := Lib.hid (HT.out.below hb)
  clear hb
  have LA := Lib.hid hl
  clear hl
  clear HQa
  go_wp2_with fail
  refine (hyper_ok (N := N) 3 2 2 3 _ hN (by decide) (by decide) (by decide) (by decide) (sel3 0 (mkRat 2 3) (mkRat 1 3)) aw_b).mono ?_
  rintro e w3 ⟨bb, rfl, bb1, bb2, hl, hb⟩
  have hs_w3 : w2.heap.size ≤ w3.heap.size := hb.size
  replace HB := Lib.hid (HB.out.trans (hb.mono hs0))
  replace hN : N ≤ w3.heap.size := Nat.le_trans hN hb.size
  replace hs0 : w.heap.size ≤ w3.heap.size := Nat.le_trans hs0 hb.size
  replace LA := Lib.hid (LA.out.below hb)
  replace HT := Lib.hid (HT.out.below hb)
  clear hb
  have LB := Lib.hid hl
  clear hl
  go_wp2_with fail
  refine (part_any (N := N) 1 2 _ hN (by decide) (by decide) _ rfl).mono ?_
  rintro e w4 ⟨ab, db, rfl, hn, hb⟩
  have hs_w4 : w3.heap.size ≤ w4.heap.size := hb.size
  replace HB := Lib.hid (HB.out.trans (hb.mono hs0))
  replace hN : N ≤ w4.heap.size := Nat.le_trans hN hb.size
  replace hs0 : w.heap.size ≤ w4.heap.size := Nat.le_trans hs0 hb.size
  replace LA := Lib.hid (LA.out.below hb)
  replace LB := Lib.hid (LB.out.below hb)
  replace HT := Lib.hid (HT.out.below hb)
  clear hb
  have HQb := Lib.hid hn
  clear hn
  go_wp2_with fail
  refine (part_any (N := N) 1 3 _ hN (by decide) (by decide) _ rfl).mono ?_
  rintro e w5 ⟨ac, dc, rfl, hn, hb⟩
  have hs_w5 : w4.heap.size ≤ w5.heap.size := hb.size
  replace HQb := Lib.hid (HQb.out.below hb)
  replace HB := Lib.hid (HB.out.trans (hb.mono hs0))
  replace hN : N ≤ w5.heap.size := Nat.le_trans hN hb.size
  replace hs0 : w.heap.size ≤ w5.heap.size := Nat.le_trans hs0 hb.size
  replace LA := Lib.hid (LA.out.below hb)
  replace LB := Lib.hid (LB.out.below hb)
  replace HT := Lib.hid (HT.out.below hb)
  clear hb
  have HQc := Lib.hid hn
  clear hn
  go_wp2_with fail
  refine calls_name fun W6 hW => ?_
  have hs_W6 : w5.heap.size ≤ W6.heap.size := by rw [← hW]; (first | omega | (simp; done) | (simp; omega))
  have HK_W6 := Lib.hid (show Kp N w5 W6 by rw [← hW]; exact KpA)
  have RC := Lib.hid (show Rs N W6 (some ⟨w5.heap.size, 0, none⟩) 2 2 (sel3 (frq 1 2) (frq 1 3) 0) 1 by rw [← hW]; exact Rs.two _ rfl 0 HQb.out HQc.out)
  have HL_W6 := Lib.hid (show Below w5.heap.size w5 W6 by rw [← hW]; exact BlA)
  replace HQb := Lib.hid (HQb.out.keep HK_W6.out)
  replace HQc := Lib.hid (HQc.out.keep HK_W6.out)
  replace HB := Lib.hid (show Below w.heap.size w W6 by rw [← hW]; exact BlA)
  replace hN : N ≤ W6.heap.size := by rw [← hW]; (first | omega | (simp; done) | (simp; omega))
  replace hs0 : w.heap.size ≤ W6.heap.size := by rw [← hW]; (first | omega | (simp; done) | (simp; omega))
  replace LA := Lib.hid (LA.out.below HL_W6.out)
  replace LB := Lib.hid (LB.out.below HL_W6.out)
  replace HT := Lib.hid (HT.out.below HL_W6.out)
  clear HL_W6
  clear hW HK_W6
  have lt_LA := LA.out.lt
  have lt_LB := LB.out.lt
  refine (trials_ok (N := N) _ 2 2 _ 1 _ hN RC.out (by decide) aw_cp (by decide) (sel3 (mkRat 1 3) (mkRat 1 2) (mkRat 1 6)) aw_c).mono ?_
  rintro e w7 ⟨bc, rfl, bc1, bc2, hl, hb⟩
  have hs_w7 : W6.heap.size ≤ w7.heap.size := hb.size
  replace HQb := Lib.hid (HQb.out.below hb)
  replace HQc := Lib.hid (HQc.out.below hb)
  replace HB := Lib.hid (HB.out.trans (hb.mono hs0))
  replace hN : N ≤ w7.heap.size := Nat.le_trans hN hb.size
  replace hs0 : w.heap.size ≤ w7.heap.size := Nat.le_trans hs0 hb.size
  replace LA := Lib.hid (LA.out.below hb)
  replace LB := Lib.hid (LB.out.below hb)
  replace HT := Lib.hid (HT.out.below hb)
  replace RC := Lib.hid (RC.out.below hb)
  clear hb
  have LC := Lib.hid hl
  clear hl
  clear HQb
  clear HQc
  clear RC
  go_wp2_with fail
  refine calls_name fun W8 hW => ?_
  have hs_W8 : w7.heap.size ≤ W8.heap.size := by rw [← hW]; (first | omega | (simp; done) | (simp; omega))
  have HS_W8 := Lib.hid (show Ss W8 (some ⟨w7.heap.size, 0, none⟩) 3 3 (sel3 ⟨#[52, 47, 57]⟩ ⟨#[52, 47, 57]⟩ ⟨#[49, 47, 57]⟩) by rw [← hW]; exact Ss.three _ _ rfl _ _ _)
  have HL_W8 := Lib.hid (show Below w7.heap.size w7 W8 by rw [← hW]; exact BlA)
  replace HB := Lib.hid (show Below w.heap.size w W8 by rw [← hW]; exact BlA)
  replace hN : N ≤ W8.heap.size := by rw [← hW]; (first | omega | (simp; done) | (simp; omega))
  replace hs0 : w.heap.size ≤ W8.heap.size := by rw [← hW]; (first | omega | (simp; done) | (simp; omega))
  replace LA := Lib.hid (LA.out.below HL_W8.out)
  replace LB := Lib.hid (LB.out.below HL_W8.out)
  replace LC := Lib.hid (LC.out.below HL_W8.out)
  replace HT := Lib.hid (HT.out.below HL_W8.out)
  clear HL_W8
  clear hW
  have lt_LA := LA.out.lt
  have lt_LB := LB.out.lt
  have lt_LC := LC.out.lt
  refine (is_any (N := N) _ _ 3 _ _ (sel3 (mkRat 4 9) (mkRat 4 9) (mkRat 1 9)) _ 1 _ hN ((LA.out).rs (by unfold maxLen; omega) 1 (fun i hi => rsz_small _ (aw_as i hi).1 (aw_as i hi).2)) HS_W8.out (by decide) HT.out (sel3_tx tx49 tx49 tx19)).mono ?_
  rintro e w9 ⟨rfl, hb⟩
  have hs_w9 : W8.heap.size ≤ w9.heap.size := hb.size
  replace HB := Lib.hid (HB.out.trans (hb.mono hs0))
  replace hN : N ≤ w9.heap.size := Nat.le_trans hN hb.size
  replace hs0 : w.heap.size ≤ w9.heap.size := Nat.le_trans hs0 hb.size
  replace LA := Lib.hid (LA.out.below hb)
  replace LB := Lib.hid (LB.out.below hb)
  replace LC := Lib.hid (LC.out.below hb)
  replace HT := Lib.hid (HT.out.below hb)
  clear hb
  go_wp2_with fail
  refine calls_name fun W10 hW => ?_
  have hs_W10 : w9.heap.size ≤ W10.heap.size := by rw [← hW]; (first | omega | (simp; done) | (simp; omega))
  have HS_W10 := Lib.hid (show Ss W10 (some ⟨w9.heap.size, 0, none⟩) 3 3 (sel3 ⟨#[48]⟩ ⟨#[50, 47, 51]⟩ ⟨#[49, 47, 51]⟩) by rw [← hW]; exact Ss.three _ _ rfl _ _ _)
  have HL_W10 := Lib.hid (show Below w9.heap.size w9 W10 by rw [← hW]; exact BlA)
  replace HB := Lib.hid (show Below w.heap.size w W10 by rw [← hW]; exact BlA)
  replace hN : N ≤ W10.heap.size := by rw [← hW]; (first | omega | (simp; done) | (simp; omega))
  replace hs0 : w.heap.size ≤ W10.heap.size := by rw [← hW]; (first | omega | (simp; done) | (simp; omega))
  replace LA := Lib.hid (LA.out.below HL_W10.out)
  replace LB := Lib.hid (LB.out.below HL_W10.out)
  replace LC := Lib.hid (LC.out.below HL_W10.out)
  replace HT := Lib.hid (HT.out.below HL_W10.out)
  clear HL_W10
  clear hW
  have lt_LA := LA.out.lt
  have lt_LB := LB.out.lt
  have lt_LC := LC.out.lt
  refine (is_any (N := N) _ _ 3 _ _ (sel3 0 (mkRat 2 3) (mkRat 1 3)) _ 1 _ hN ((LB.out).rs (by unfold maxLen; omega) 1 (fun i hi => rsz_small _ (aw_bs i hi).1 (aw_bs i hi).2)) HS_W10.out (by decide) HT.out (sel3_tx txt_zero7 tx23 tx13)).mono ?_
  rintro e w11 ⟨rfl, hb⟩
  have hs_w11 : W10.heap.size ≤ w11.heap.size := hb.size
  replace HB := Lib.hid (HB.out.trans (hb.mono hs0))
  replace hN : N ≤ w11.heap.size := Nat.le_trans hN hb.size
  replace hs0 : w.heap.size ≤ w11.heap.size := Nat.le_trans hs0 hb.size
  replace LA := Lib.hid (LA.out.below hb)
  replace LB := Lib.hid (LB.out.below hb)
  replace LC := Lib.hid (LC.out.below hb)
  replace HT := Lib.hid (HT.out.below hb)
  clear hb
  go_wp2_with fail
  refine calls_name fun W12 hW => ?_
  have hs_W12 : w11.heap.size ≤ W12.heap.size := by rw [← hW]; (first | omega | (simp; done) | (simp; omega))
  have HS_W12 := Lib.hid (show Ss W12 (some ⟨w11.heap.size, 0, none⟩) 3 3 (sel3 ⟨#[49, 47, 51]⟩ ⟨#[49, 47, 50]⟩ ⟨#[49, 47, 54]⟩) by rw [← hW]; exact Ss.three _ _ rfl _ _ _)
  have HL_W12 := Lib.hid (show Below w11.heap.size w11 W12 by rw [← hW]; exact BlA)
  replace HB := Lib.hid (show Below w.heap.size w W12 by rw [← hW]; exact BlA)
  replace hN : N ≤ W12.heap.size := by rw [← hW]; (first | omega | (simp; done) | (simp; omega))
  replace hs0 : w.heap.size ≤ W12.heap.size := by rw [← hW]; (first | omega | (simp; done) | (simp; omega))
  replace LA := Lib.hid (LA.out.below HL_W12.out)
  replace LB := Lib.hid (LB.out.below HL_W12.out)
  replace LC := Lib.hid (LC.out.below HL_W12.out)
  replace HT := Lib.hid (HT.out.below HL_W12.out)
  clear HL_W12
  clear hW
  have lt_LA := LA.out.lt
  have lt_LB := LB.out.lt
  have lt_LC := LC.out.lt
  refine (is_any (N := N) _ _ 3 _ _ (sel3 (mkRat 1 3) (mkRat 1 2) (mkRat 1 6)) _ 1 _ hN ((LC.out).rs (by unfold maxLen; omega) 1 (fun i hi => rsz_small _ (aw_cs i hi).1 (aw_cs i hi).2)) HS_W12.out (by decide) HT.out (sel3_tx tx13 tx12 tx16)).mono ?_
  rintro e w13 ⟨rfl, hb⟩
  have hs_w13 : W12.heap.size ≤ w13.heap.size := hb.size
  replace HB := Lib.hid (HB.out.trans (hb.mono hs0))
  replace hN : N ≤ w13.heap.size := Nat.le_trans hN hb.size
  replace hs0 : w.heap.size ≤ w13.heap.size := Nat.le_trans hs0 hb.size
  replace LA := Lib.hid (LA.out.below hb)
  replace LB := Lib.hid (LB.out.below hb)
  replace LC := Lib.hid (LC.out.below hb)
  replace HT := Lib.hid (HT.out.below hb)
  clear hb
  go_wp2_with fail
  clear LA
  clear LB
  refine (part_any (N := N) 1 2 _ hN (by decide) (by decide) _ rfl).mono ?_
  rintro e w14 ⟨ab, db, rfl, hn, hb⟩
  have hs_w14 : w13.heap.size ≤ w14.heap.size := hb.size
  replace HB := Lib.hid (HB.out.trans (hb.mono hs0))
  replace hN : N ≤ w14.heap.size := Nat.le_trans hN hb.size
  replace hs0 : w.heap.size ≤ w14.heap.size := Nat.le_trans hs0 hb.size
  replace LC := Lib.hid (LC.out.below hb)
  replace HT := Lib.hid (HT.out.below hb)
  clear hb
  have HQb := Lib.hid hn
  clear hn
  go_wp2_with fail
  refine (part_any (N := N) 2 4 _ hN (by decide) (by decide) _ rfl).mono ?_
  rintro e w15 ⟨ac, dc, rfl, hn, hb⟩
  have hs_w15 : w14.heap.size ≤ w15.heap.size := hb.size
  replace HQb := Lib.hid (HQb.out.below hb)
  replace HB := Lib.hid (HB.out.trans (hb.mono hs0))
  replace hN : N ≤ w15.heap.size := Nat.le_trans hN hb.size
  replace hs0 : w.heap.size ≤ w15.heap.size := Nat.le_trans hs0 hb.size
  replace LC := Lib.hid (LC.out.below hb)
  replace HT := Lib.hid (HT.out.below hb)
  clear hb
  have HQc := Lib.hid hn
  clear hn
  go_wp2_with fail
  refine calls_name fun W16 hW => ?_
  have hs_W16 : w15.heap.size ≤ W16.heap.size := by rw [← hW]; (first | omega | (simp; done) | (simp; omega))
  have HK_W16 := Lib.hid (show Kp N w15 W16 by rw [← hW]; exact KpA)
  have RC := Lib.hid (show Rs N W16 (some ⟨w15.heap.size, 0, none⟩) 2 2 (sel3 (frq 1 2) (frq 2 4) 0) 1 by rw [← hW]; exact Rs.two _ rfl 0 HQb.out HQc.out)
  have HL_W16 := Lib.hid (show Below w15.heap.size w15 W16 by rw [← hW]; exact BlA)
  replace HQb := Lib.hid (HQb.out.keep HK_W16.out)
  replace HQc := Lib.hid (HQc.out.keep HK_W16.out)
  replace HB := Lib.hid (show Below w.heap.size w W16 by rw [← hW]; exact BlA)
  replace hN : N ≤ W16.heap.size := by rw [← hW]; (first | omega | (simp; done) | (simp; omega))
  replace hs0 : w.heap.size ≤ W16.heap.size := by rw [← hW]; (first | omega | (simp; done) | (simp; omega))
  replace LC := Lib.hid (LC.out.below HL_W16.out)
  replace HT := Lib.hid (HT.out.below HL_W16.out)
  clear HL_W16
  clear hW HK_W16
  have lt_LC := LC.out.lt
  clear HQb
  clear HQc
  refine (part_any (N := N) 1 2 _ hN (by decide) (by decide) _ rfl).mono ?_
  rintro e w17 ⟨ad, dd, rfl, hn, hb⟩
  have hs_w17 : W16.heap.size ≤ w17.heap.size := hb.size
  replace HB := Lib.hid (HB.out.trans (hb.mono hs0))
  replace hN : N ≤ w17.heap.size := Nat.le_trans hN hb.size
  replace hs0 : w.heap.size ≤ w17.heap.size := Nat.le_trans hs0 hb.size
  replace LC := Lib.hid (LC.out.below hb)
  replace HT := Lib.hid (HT.out.below hb)
  replace RC := Lib.hid (RC.out.below hb)
  clear hb
  have HQd := Lib.hid hn
  clear hn
  go_wp2_with fail
  refine (part_any (N := N) 1 2 _ hN (by decide) (by decide) _ rfl).mono ?_
  rintro e w18 ⟨ae, de, rfl, hn, hb⟩
  have hs_w18 : w17.heap.size ≤ w18.heap.size := hb.size
  replace HQd := Lib.hid (HQd.out.below hb)
  replace HB := Lib.hid (HB.out.trans (hb.mono hs0))
  replace hN : N ≤ w18.heap.size := Nat.le_trans hN hb.size
  replace hs0 : w.heap.size ≤ w18.heap.size := Nat.le_trans hs0 hb.size
  replace LC := Lib.hid (LC.out.below hb)
  replace HT := Lib.hid (HT.out.below hb)
  replace RC := Lib.hid (RC.out.below hb)
  clear hb
  have HQe := Lib.hid hn
  clear hn
  go_wp2_with fail
  refine calls_name fun W19 hW => ?_
  have hs_W19 : w18.heap.size ≤ W19.heap.size := by rw [← hW]; (first | omega | (simp; done) | (simp; omega))
  have HK_W19 := Lib.hid (show Kp N w18 W19 by rw [← hW]; exact KpA)
  have RD := Lib.hid (show Rs N W19 (some ⟨w18.heap.size, 0, none⟩) 2 2 (sel3 (frq 1 2) (frq 1 2) 0) 1 by rw [← hW]; exact Rs.two _ rfl 0 HQd.out HQe.out)
  have HL_W19 := Lib.hid (show Below w18.heap.size w18 W19 by rw [← hW]; exact BlA)
  replace HQd := Lib.hid (HQd.out.keep HK_W19.out)
  replace HQe := Lib.hid (HQe.out.keep HK_W19.out)
  replace HB := Lib.hid (show Below w.heap.size w W19 by rw [← hW]; exact BlA)
  replace hN : N ≤ W19.heap.size := by rw [← hW]; (first | omega | (simp; done) | (simp; omega))
  replace hs0 : w.heap.size ≤ W19.heap.size := by rw [← hW]; (first | omega | (simp; done) | (simp; omega))
  replace LC := Lib.hid (LC.out.below HL_W19.out)
  replace HT := Lib.hid (HT.out.below HL_W19.out)
  replace RC := Lib.hid (RC.out.below HL_W19.out)
  clear HL_W19
  clear hW HK_W19
  have lt_LC := LC.out.lt
  refine (Convolve_ok (N := N) _ _ 2 _ 2 _ _ _ 1 _ hN RC.out RD.out (by decide) aw_d1 aw_d2 3 rfl (by decide) (sel3 (mkRat 1 4) (mkRat 1 2) (mkRat 1 4)) aw_d).mono ?_
  rintro e w20 ⟨bd, rfl, bd1, bd2, hl, hb⟩
  have hs_w20 : W19.heap.size ≤ w20.heap.size := hb.size
  replace HQd := Lib.hid (HQd.out.below hb)
  replace HQe := Lib.hid (HQe.out.below hb)
  replace HB := Lib.hid (HB.out.trans (hb.mono hs0))
  replace hN : N ≤ w20.heap.size := Nat.le_trans hN hb.size
  replace hs0 : w.heap.size ≤ w20.heap.size := Nat.le_trans hs0 hb.size
  replace LC := Lib.hid (LC.out.below hb)
  replace HT := Lib.hid (HT.out.below hb)
  replace RC := Lib.hid (RC.out.below hb)
  replace RD := Lib.hid (RD.out.below hb)
  clear hb
  have LD := Lib.hid hl
  clear hl
  clear HQd
  clear HQe
  clear RC
  clear RD
  go_wp2_with fail
  refine calls_name fun W21 hW => ?_
  have hs_W21 : w20.heap.size ≤ W21.heap.size := by rw [← hW]; (first | omega | (simp; done) | (simp; omega))
  have HS_W21 := Lib.hid (show Ss W21 (some ⟨w20.heap.size, 0, none⟩) 3 3 (sel3 ⟨#[49, 47, 52]⟩ ⟨#[49, 47, 50]⟩ ⟨#[49, 47, 52]⟩) by rw [← hW]; exact Ss.three _ _ rfl _ _ _)
  have HL_W21 := Lib.hid (show Below w20.heap.size w20 W21 by rw [← hW]; exact BlA)
  replace HB := Lib.hid (show Below w.heap.size w W21 by rw [← hW]; exact BlA)
  replace hN : N ≤ W21.heap.size := by rw [← hW]; (first | omega | (simp; done) | (simp; omega))
  replace hs0 : w.heap.size ≤ W21.heap.size := by rw [← hW]; (first | omega | (simp; done) | (simp; omega))
  replace LC := Lib.hid (LC.out.below HL_W21.out)
  replace LD := Lib.hid (LD.out.below HL_W21.out)
  replace HT := Lib.hid (HT.out.below HL_W21.out)
  clear HL_W21
  clear hW
  have lt_LC := LC.out.lt
  have lt_LD := LD.out.lt
  refine (is_any (N := N) _ _ 3 _ _ (sel3 (mkRat 1 4) (mkRat 1 2) (mkRat 1 4)) _ 1 _ hN ((LD.out).rs (by unfold maxLen; omega) 1 (fun i hi => rsz_small _ (aw_ds i hi).1 (aw_ds i hi).2)) HS_W21.out (by decide) HT.out (sel3_tx tx14 tx12 tx14)).mono ?_
  rintro e w22 ⟨rfl, hb⟩
  have hs_w22 : W21.heap.size ≤ w22.heap.size := hb.size
  replace HB := Lib.hid (HB.out.trans (hb.mono hs0))
  replace hN : N ≤ w22.heap.size := Nat.le_trans hN hb.size
  replace hs0 : w.heap.size ≤ w22.heap.size := Nat.le_trans hs0 hb.size
  replace LC := Lib.hid (LC.out.below hb)
  replace LD := Lib.hid (LD.out.below hb)
  replace HT := Lib.hid (HT.out.below hb)
  clear hb
  go_wp2_with fail
  clear LD
  refine (Valid_any (N := N) _ 3 _ (sel3 (mkRat 1 3) (mkRat 1 2) (mkRat 1 6)) 1 _ hN ((LC.out).rs (by unfold maxLen; omega) 1 (fun i hi => rsz_small _ (aw_cs i hi).1 (aw_cs i hi).2)) (by decide) true aw_v).mono ?_
  rintro e w23 ⟨rfl, hb⟩
  have hs_w23 : w22.heap.size ≤ w23.heap.size := hb.size
  replace HB := Lib.hid (HB.out.trans (hb.mono hs0))
  replace hN : N ≤ w23.heap.size := Nat.le_trans hN hb.size
  replace hs0 : w.heap.size ≤ w23.heap.size := Nat.le_trans hs0 hb.size
  replace LC := Lib.hid (LC.out.below hb)
  replace HT := Lib.hid (HT.out.below hb)
  clear hb
  go_wp2_with fail
  refine (part_any (N := N) 1 2 _ hN (by decide) (by decide) _ rfl).mono ?_
  rintro e w24 ⟨ab, db, rfl, hn, hb⟩
  have hs_w24 : w23.heap.size ≤ w24.heap.size := hb.size
  replace HB := Lib.hid (HB.out.trans (hb.mono hs0))
  replace hN : N ≤ w24.heap.size := Nat.le_trans hN hb.size
  replace hs0 : w.heap.size ≤ w24.heap.size := Nat.le_trans hs0 hb.size
  replace LC := Lib.hid (LC.out.below hb)
  replace HT := Lib.hid (HT.out.below hb)
  clear hb
  have HQb := Lib.hid hn
  clear hn
  go_wp2_with fail
  refine (part_any (N := N) 1 3 _ hN (by decide) (by decide) _ rfl).mono ?_
  rintro e w25 ⟨ac, dc, rfl, hn, hb⟩
  have hs_w25 : w24.heap.size ≤ w25.heap.size := hb.size
  replace HQb := Lib.hid (HQb.out.below hb)
  replace HB := Lib.hid (HB.out.trans (hb.mono hs0))
  replace hN : N ≤ w25.heap.size := Nat.le_trans hN hb.size
  replace hs0 : w.heap.size ≤ w25.heap.size := Nat.le_trans hs0 hb.size
  replace LC := Lib.hid (LC.out.below hb)
  replace HT := Lib.hid (HT.out.below hb)
  clear hb
  have HQc := Lib.hid hn
  clear hn
  go_wp2_with fail
  refine calls_name fun W26 hW => ?_
  have hs_W26 : w25.heap.size ≤ W26.heap.size := by rw [← hW]; (first | omega | (simp; done) | (simp; omega))
  have HK_W26 := Lib.hid (show Kp N w25 W26 by rw [← hW]; exact KpA)
  have RC := Lib.hid (show Rs N W26 (some ⟨w25.heap.size, 0, none⟩) 2 2 (sel3 (frq 1 2) (frq 1 3) 0) 1 by rw [← hW]; exact Rs.two _ rfl 0 HQb.out HQc.out)
  have HL_W26 := Lib.hid (show Below w25.heap.size w25 W26 by rw [← hW]; exact BlA)
  replace HQb := Lib.hid (HQb.out.keep HK_W26.out)
  replace HQc := Lib.hid (HQc.out.keep HK_W26.out)
  replace HB := Lib.hid (show Below w.heap.size w W26 by rw [← hW]; exact BlA)
  replace hN : N ≤ W26.heap.size := by rw [← hW]; (first | omega | (simp; done) | (simp; omega))
  replace hs0 : w.heap.size ≤ W26.heap.size := by rw [← hW]; (first | omega | (simp; done) | (simp; omega))
  replace LC := Lib.hid (LC.out.below HL_W26.out)
  replace HT := Lib.hid (HT.out.below HL_W26.out)
  clear HL_W26
  clear hW HK_W26
  have lt_LC := LC.out.lt
  refine (Valid_any (N := N) _ 2 _ _ 1 _ hN RC.out (by decide) false aw_nv).mono ?_
  rintro e w27 ⟨rfl, hb⟩
  have hs_w27 : W26.heap.size ≤ w27.heap.size := hb.size
  replace HQb := Lib.hid (HQb.out.below hb)
  replace HQc := Lib.hid (HQc.out.below hb)
  replace HB := Lib.hid (HB.out.trans (hb.mono hs0))
  replace hN : N ≤ w27.heap.size := Nat.le_trans hN hb.size
  replace hs0 : w.heap.size ≤ w27.heap.size := Nat.le_trans hs0 hb.size
  replace LC := Lib.hid (LC.out.below hb)
  replace HT := Lib.hid (HT.out.below hb)
  replace RC := Lib.hid (RC.out.below hb)
  clear hb
  clear HQb
  clear HQc
  clear RC
  go_wp2_with fail
  refine (Mean_ok (N := N) _ 3 _ (sel3 (mkRat 1 3) (mkRat 1 2) (mkRat 1 6)) 1 _ hN ((LC.out).rs (by unfold maxLen; omega) 1 (fun i hi => rsz_small _ (aw_cs i hi).1 (aw_cs i hi).2)) (by decide) aw_v pm HPm.out).mono ?_
  rintro e w28 ⟨rm, cm, rm2, cm2, rfl, hn, hn', hb⟩
  have hs_w28 : w27.heap.size ≤ w28.heap.size := hb.size
  replace HB := Lib.hid (HB.out.trans (hb.mono hs0))
  replace hN : N ≤ w28.heap.size := Nat.le_trans hN hb.size
  replace hs0 : w.heap.size ≤ w28.heap.size := Nat.le_trans hs0 hb.size
  replace LC := Lib.hid (LC.out.below hb)
  replace HT := Lib.hid (HT.out.below hb)
  clear hb
  have HM1 := Lib.hid hn
  clear hn
  have HM2 := Lib.hid hn'
  clear hn'
  go_wp2_with fail
  refine calls_name fun W29 hW => ?_
  have hs_W29 : w28.heap.size ≤ W29.heap.size := by rw [← hW]; (first | omega | (simp; done) | (simp; omega))
  have HK_W29 := Lib.hid (show Kp N w28 W29 by rw [← hW]; exact KpA)
  have HL_W29 := Lib.hid (show Below w28.heap.size w28 W29 by rw [← hW]; exact BlA)
  have k_M_0 : W29.cell? ⟨w28.heap.size, 0, none⟩ = some (.bool (decide ((pm).num < 0))) := by rw [← hW]; (first | (go_simp; done) | (simp; done) | (simp [go_sem]; done) | (simp [go_sem]; done))
  have k_M_1 : W29.cell? ⟨w28.heap.size, 1, none⟩ = some (.slice rm (nlen (pm).num.natAbs) cm) := by rw [← hW]; (first | (go_simp; done) | (simp; done) | (simp [go_sem]; done) | (simp [go_sem]; done))
  have k_M_2 : W29.cell? ⟨w28.heap.size, 2, none⟩ = some (.slice rm2 (nlen (pm).den) cm2) := by rw [← hW]; (first | (go_simp; done) | (simp; done) | (simp [go_sem]; done) | (simp [go_sem]; done))
  have f_M : ∀ o, W29.frozen? ⟨w28.heap.size, o, none⟩ = false := by intro o; rw [← hW]; (first | (go_simp; done) | (simp; done) | (simp [go_sem]; done) | (simp [go_sem]; done))
  have HX_M := Lib.hid (show Bn W29 (w28.heap.size) by rw [← hW]; exact KpA)
  replace HM1 := Lib.hid (HM1.out.keep HK_W29.out)
  replace HM2 := Lib.hid (HM2.out.keep HK_W29.out)
  replace HB := Lib.hid (show Below w.heap.size w W29 by rw [← hW]; exact BlA)
  replace hN : N ≤ W29.heap.size := by rw [← hW]; (first | omega | (simp; done) | (simp; omega))
  replace hs0 : w.heap.size ≤ W29.heap.size := by rw [← hW]; (first | omega | (simp; done) | (simp; omega))
  have hl_M : w28.heap.size < W29.heap.size := by rw [← hW]; (first | omega | (simp; done) | (simp; omega))
  replace LC := Lib.hid (LC.out.below HL_W29.out)
  replace HT := Lib.hid (HT.out.below HL_W29.out)
  clear HL_W29
  clear hW HK_W29
  have lt_LC := LC.out.lt
  refine (Variance_ok (N := N) _ 3 _ (sel3 (mkRat 1 3) (mkRat 1 2) (mkRat 1 6)) 1 _ hN ((LC.out).rs (by unfold maxLen; omega) 1 (fun i hi => rsz_small _ (aw_cs i hi).1 (aw_cs i hi).2)) (by decide) aw_v pv HPv.out).mono ?_
  rintro e w30 ⟨rv, cv, rv2, cv2, rfl, hn, hn', hb⟩
  have hs_w30 : W29.heap.size ≤ w30.heap.size := hb.size
  replace k_M_0 : w30.cell? ⟨w28.heap.size, 0, none⟩ = some (.bool (decide ((pm).num < 0))) := (hb.cell (p := ⟨w28.heap.size, 0, none⟩) hl_M).trans k_M_0
  replace k_M_1 : w30.cell? ⟨w28.heap.size, 1, none⟩ = some (.slice rm (nlen (pm).num.natAbs) cm) := (hb.cell (p := ⟨w28.heap.size, 1, none⟩) hl_M).trans k_M_1
  replace k_M_2 : w30.cell? ⟨w28.heap.size, 2, none⟩ = some (.slice rm2 (nlen (pm).den) cm2) := (hb.cell (p := ⟨w28.heap.size, 2, none⟩) hl_M).trans k_M_2
  replace f_M : ∀ o, w30.frozen? ⟨w28.heap.size, o, none⟩ = false := fun o => (hb.frozen (p := ⟨w28.heap.size, o, none⟩) hl_M).trans (f_M o)
  replace HX_M := Lib.hid (HX_M.out.below hb)
  replace HM1 := Lib.hid (HM1.out.below hb)
  replace HM2 := Lib.hid (HM2.out.below hb)
  replace HB := Lib.hid (HB.out.trans (hb.mono hs0))
  replace hN : N ≤ w30.heap.size := Nat.le_trans hN hb.size
  replace hs0 : w.heap.size ≤ w30.heap.size := Nat.le_trans hs0 hb.size
  replace hl_M : w28.heap.size < w30.heap.size := Nat.lt_of_lt_of_le hl_M hb.size
  replace LC := Lib.hid (LC.out.below hb)
  replace HT := Lib.hid (HT.out.below hb)
  clear hb
  have HV1 := Lib.hid hn
  clear hn
  have HV2 := Lib.hid hn'
  clear hn'
  clear LC
  go_wp2_with fail
  refine calls_name fun W31 hW => ?_
  have HL_W31 := Lib.hid (show Below w30.heap.size w30 W31 by rw [← hW]; exact BlA)
  have hs_W31 : w30.heap.size ≤ W31.heap.size := by rw [← hW]; (first | omega | (simp; done) | (simp; omega))
  have hd_M_V : w28.heap.size < w30.heap.size := by omega
  have HK_W31 := Lib.hid (show Kp N w30 W31 by rw [← hW]; exact KpA)
  have HR_W31 := Lib.hid (show Rs N W31 (some ⟨w30.heap.size + 1, 0, none⟩) 2 2 (sel3 pm pv 0) 1 by rw [← hW]; refine Rs.below ?_ (bel1 _ _); exact Rs.two _ (by simp) 0 ((Rt.of_norm HM1.out HM2.out 1 Hzm.out).alloc _) ((Rt.of_norm HV1.out HV2.out 1 Hzv.out).alloc _))
  have HS_W31 := Lib.hid (show Ss W31 (some ⟨w30.heap.size + 1 + 1, 0, none⟩) 2 2 (sel3 ⟨#[53, 47, 54]⟩ ⟨#[49, 55, 47, 51, 54]⟩ ⟨#[48]⟩) by rw [← hW]; exact Ss.two _ _ (by simp) _ _ _)
  replace k_M_0 : W31.cell? ⟨w28.heap.size, 0, none⟩ = some (.bool (decide ((pm).num < 0))) := (HL_W31.out.cell (p := ⟨w28.heap.size, 0, none⟩) hl_M).trans k_M_0
  replace k_M_1 : W31.cell? ⟨w28.heap.size, 1, none⟩ = some (.slice rm (nlen (pm).num.natAbs) cm) := (HL_W31.out.cell (p := ⟨w28.heap.size, 1, none⟩) hl_M).trans k_M_1
  replace k_M_2 : W31.cell? ⟨w28.heap.size, 2, none⟩ = some (.slice rm2 (nlen (pm).den) cm2) := (HL_W31.out.cell (p := ⟨w28.heap.size, 2, none⟩) hl_M).trans k_M_2
  replace f_M : ∀ o, W31.frozen? ⟨w28.heap.size, o, none⟩ = false := fun o => (HL_W31.out.frozen (p := ⟨w28.heap.size, o, none⟩) hl_M).trans (f_M o)
  replace HX_M := Lib.hid (show Bn W31 (w28.heap.size) by rw [← hW]; exact KpA)
  have k_V_0 : W31.cell? ⟨w30.heap.size, 0, none⟩ = some (.bool (decide ((pv).num < 0))) := by rw [← hW]; (first | (go_simp; done) | (simp; done) | (simp [go_sem]; done) | (simp [go_sem, k_M_0, k_M_1, k_M_2, f_M, hl_M]; done))
  have k_V_1 : W31.cell? ⟨w30.heap.size, 1, none⟩ = some (.slice rv (nlen (pv).num.natAbs) cv) := by rw [← hW]; (first | (go_simp; done) | (simp; done) | (simp [go_sem]; done) | (simp [go_sem, k_M_0, k_M_1, k_M_2, f_M, hl_M]; done))
  have k_V_2 : W31.cell? ⟨w30.heap.size, 2, none⟩ = some (.slice rv2 (nlen (pv).den) cv2) := by rw [← hW]; (first | (go_simp; done) | (simp; done) | (simp [go_sem]; done) | (simp [go_sem, k_M_0, k_M_1, k_M_2, f_M, hl_M]; done))
  have f_V : ∀ o, W31.frozen? ⟨w30.heap.size, o, none⟩ = false := by intro o; rw [← hW]; (first | (go_simp; done) | (simp; done) | (simp [go_sem]; done) | (simp [go_sem, k_M_0, k_M_1, k_M_2, f_M, hl_M]; done))
  have HX_V := Lib.hid (show Bn W31 (w30.heap.size) by rw [← hW]; exact KpA)
  replace HM1 := Lib.hid (HM1.out.keep HK_W31.out)
  replace HM2 := Lib.hid (HM2.out.keep HK_W31.out)
  replace HV1 := Lib.hid (HV1.out.keep HK_W31.out)
  replace HV2 := Lib.hid (HV2.out.keep HK_W31.out)
  replace HB := Lib.hid (show Below w.heap.size w W31 by rw [← hW]; exact BlA)
  replace hN : N ≤ W31.heap.size := by rw [← hW]; (first | omega | (simp; done) | (simp; omega))
  replace hs0 : w.heap.size ≤ W31.heap.size := by rw [← hW]; (first | omega | (simp; done) | (simp; omega))
  replace hl_M : w28.heap.size < W31.heap.size := by rw [← hW]; (first | omega | (simp; done) | (simp; omega))
  have hl_V : w30.heap.size < W31.heap.size := by rw [← hW]; (first | omega | (simp; done) | (simp; omega))
  replace HT := Lib.hid (HT.out.below HL_W31.out)
  clear HL_W31
  clear hW HK_W31
  refine (is_any (N := N) _ _ 2 _ _ (sel3 pm pv 0) _ 1 _ hN HR_W31.out HS_W31.out (by decide) HT.out (sel2_tx (by rw [← HPm.out, aw_m]; exact tx56) (by rw [← HPv.out, aw_s]; exact txt_1736))).mono ?_
  rintro e w32 ⟨rfl, hb⟩
  have hs_w32 : W31.heap.size ≤ w32.heap.size := hb.size
  replace k_M_0 : w32.cell? ⟨w28.heap.size, 0, none⟩ = some (.bool (decide ((pm).num < 0))) := (hb.cell (p := ⟨w28.heap.size, 0, none⟩) hl_M).trans k_M_0
  replace k_M_1 : w32.cell? ⟨w28.heap.size, 1, none⟩ = some (.slice rm (nlen (pm).num.natAbs) cm) := (hb.cell (p := ⟨w28.heap.size, 1, none⟩) hl_M).trans k_M_1
  replace k_M_2 : w32.cell? ⟨w28.heap.size, 2, none⟩ = some (.slice rm2 (nlen (pm).den) cm2) := (hb.cell (p := ⟨w28.heap.size, 2, none⟩) hl_M).trans k_M_2
  replace f_M : ∀ o, w32.frozen? ⟨w28.heap.size, o, none⟩ = false := fun o => (hb.frozen (p := ⟨w28.heap.size, o, none⟩) hl_M).trans (f_M o)
  replace HX_M := Lib.hid (HX_M.out.below hb)
  replace k_V_0 : w32.cell? ⟨w30.heap.size, 0, none⟩ = some (.bool (decide ((pv).num < 0))) := (hb.cell (p := ⟨w30.heap.size, 0, none⟩) hl_V).trans k_V_0
  replace k_V_1 : w32.cell? ⟨w30.heap.size, 1, none⟩ = some (.slice rv (nlen (pv).num.natAbs) cv) := (hb.cell (p := ⟨w30.heap.size, 1, none⟩) hl_V).trans k_V_1
  replace k_V_2 : w32.cell? ⟨w30.heap.size, 2, none⟩ = some (.slice rv2 (nlen (pv).den) cv2) := (hb.cell (p := ⟨w30.heap.size, 2, none⟩) hl_V).trans k_V_2
  replace f_V : ∀ o, w32.frozen? ⟨w30.heap.size, o, none⟩ = false := fun o => (hb.frozen (p := ⟨w30.heap.size, o, none⟩) hl_V).trans (f_V o)
  replace HX_V := Lib.hid (HX_V.out.below hb)
  replace HM1 := Lib.hid (HM1.out.below hb)
  replace HM2 := Lib.hid (HM2.out.below hb)
  replace HV1 := Lib.hid (HV1.out.below hb)
  replace HV2 := Lib.hid (HV2.out.below hb)
  replace HB := Lib.hid (HB.out.trans (hb.mono hs0))
  replace hN : N ≤ w32.heap.size := Nat.le_trans hN hb.size
  replace hs0 : w.heap.size ≤ w32.heap.size := Nat.le_trans hs0 hb.size
  replace hl_M : w28.heap.size < w32.heap.size := Nat.lt_of_lt_of_le hl_M hb.size
  replace hl_V : w30.heap.size < w32.heap.size := Nat.lt_of_lt_of_le hl_V hb.size
  replace HT := Lib.hid (HT.out.below hb)
  clear hb
  clear hl_M f_M HX_M k_M_0 k_M_1 k_M_2
  clear hl_V f_V HX_V k_V_0 k_V_1 k_V_2
  clear HM1
  clear HM2
  clear HV1
  clear HV2
  go_wp2_with fail
  refine (part_any (N := N) 1 2 _ hN (by decide) (by decide) _ rfl).mono ?_
  rintro e w33 ⟨aa, da, rfl, hn, hb⟩
  have hs_w33 : w32.heap.size ≤ w33.heap.size := hb.size
  replace HB := Lib.hid (HB.out.trans (hb.mono hs0))
  replace hN : N ≤ w33.heap.size := Nat.le_trans hN hb.size
  replace hs0 : w.heap.size ≤ w33.heap.size := Nat.le_trans hs0 hb.size
  replace HT := Lib.hid (HT.out.below hb)
  clear hb
  have HQa := Lib.hid hn
  clear hn
  go_wp2_with fail
  refine (binomial_ok (N := N) 3 _ _ _ _ _ _ _ 1 (frq 1 2) _ hN HQa.out (by decide) pr12 (by decide) hdist aw_h).mono ?_
  rintro e w34 ⟨bh, rfl, bh1, bh2, hl, hb⟩
  have hs_w34 : w33.heap.size ≤ w34.heap.size := hb.size
  replace HQa := Lib.hid (HQa.out.below hb)
  replace HB := Lib.hid (HB.out.trans (hb.mono hs0))
  replace hN : N ≤ w34.heap.size := Nat.le_trans hN hb.size
  replace hs0 : w.heap.size ≤ w34.heap.size := Nat.le_trans hs0 hb.size
  replace HT := Lib.hid (HT.out.below hb)
  clear hb
  have LH := Lib.hid hl
  clear hl
  clear HQa
  go_wp2_with fail
  refine (Upper_ok (N := N) _ 4 _ hdist 1 _ hN ((LH.out).rs (by unfold maxLen; omega) 1 (fun i hi => rsz_small _ (aw_hs i hi).1 (aw_hs i hi).2)) (by decide) aw_hv 2 (by decide) (by decide) 2 (by decide) px HPx.out).mono ?_
  rintro e w35 ⟨rx, cx, rx2, cx2, rfl, hn, hn', hb⟩
  have hs_w35 : w34.heap.size ≤ w35.heap.size := hb.size
  replace HB := Lib.hid (HB.out.trans (hb.mono hs0))
  replace hN : N ≤ w35.heap.size := Nat.le_trans hN hb.size
  replace hs0 : w.heap.size ≤ w35.heap.size := Nat.le_trans hs0 hb.size
  replace LH := Lib.hid (LH.out.below hb)
  replace HT := Lib.hid (HT.out.below hb)
  clear hb
  have HX1 := Lib.hid hn
  clear hn
  have HX2 := Lib.hid hn'
  clear hn'
  go_wp2_with fail
  refine calls_name fun W36 hW => ?_
  have hs_W36 : w35.heap.size ≤ W36.heap.size := by rw [← hW]; (first | omega | (simp; done) | (simp; omega))
  have HK_W36 := Lib.hid (show Kp N w35 W36 by rw [← hW]; exact KpA)
  have HL_W36 := Lib.hid (show Below w35.heap.size w35 W36 by rw [← hW]; exact BlA)
  have k_X_0 : W36.cell? ⟨w35.heap.size, 0, none⟩ = some (.bool (decide ((px).num < 0))) := by rw [← hW]; (first | (go_simp; done) | (simp; done) | (simp [go_sem]; done) | (simp [go_sem]; done))
  have k_X_1 : W36.cell? ⟨w35.heap.size, 1, none⟩ = some (.slice rx (nlen (px).num.natAbs) cx) := by rw [← hW]; (first | (go_simp; done) | (simp; done) | (simp [go_sem]; done) | (simp [go_sem]; done))
  have k_X_2 : W36.cell? ⟨w35.heap.size, 2, none⟩ = some (.slice rx2 (nlen (px).den) cx2) := by rw [← hW]; (first | (go_simp; done) | (simp; done) | (simp [go_sem]; done) | (simp [go_sem]; done))
  have f_X : ∀ o, W36.frozen? ⟨w35.heap.size, o, none⟩ = false := by intro o; rw [← hW]; (first | (go_simp; done) | (simp; done) | (simp [go_sem]; done) | (simp [go_sem]; done))
  have HX_X := Lib.hid (show Bn W36 (w35.heap.size) by rw [← hW]; exact KpA)
  replace HX1 := Lib.hid (HX1.out.keep HK_W36.out)
  replace HX2 := Lib.hid (HX2.out.keep HK_W36.out)
  replace HB := Lib.hid (show Below w.heap.size w W36 by rw [← hW]; exact BlA)
  replace hN : N ≤ W36.heap.size := by rw [← hW]; (first | omega | (simp; done) | (simp; omega))
  replace hs0 : w.heap.size ≤ W36.heap.size := by rw [← hW]; (first | omega | (simp; done) | (simp; omega))
  have hl_X : w35.heap.size < W36.heap.size := by rw [← hW]; (first | omega | (simp; done) | (simp; omega))
  replace LH := Lib.hid (LH.out.below HL_W36.out)
  replace HT := Lib.hid (HT.out.below HL_W36.out)
  clear HL_W36
  clear hW HK_W36
  have lt_LH := LH.out.lt
  refine (Lower_ok (N := N) _ 4 _ hdist 1 _ hN ((LH.out).rs (by unfold maxLen; omega) 1 (fun i hi => rsz_small _ (aw_hs i hi).1 (aw_hs i hi).2)) (by decide) aw_hv 0 (by decide) (by decide) 1 (by decide) py HPy.out).mono ?_
  rintro e w37 ⟨ry, cy, ry2, cy2, rfl, hn, hn', hb⟩
  have hs_w37 : W36.heap.size ≤ w37.heap.size := hb.size
  replace k_X_0 : w37.cell? ⟨w35.heap.size, 0, none⟩ = some (.bool (decide ((px).num < 0))) := (hb.cell (p := ⟨w35.heap.size, 0, none⟩) hl_X).trans k_X_0
  replace k_X_1 : w37.cell? ⟨w35.heap.size, 1, none⟩ = some (.slice rx (nlen (px).num.natAbs) cx) := (hb.cell (p := ⟨w35.heap.size, 1, none⟩) hl_X).trans k_X_1
  replace k_X_2 : w37.cell? ⟨w35.heap.size, 2, none⟩ = some (.slice rx2 (nlen (px).den) cx2) := (hb.cell (p := ⟨w35.heap.size, 2, none⟩) hl_X).trans k_X_2
  replace f_X : ∀ o, w37.frozen? ⟨w35.heap.size, o, none⟩ = false := fun o => (hb.frozen (p := ⟨w35.heap.size, o, none⟩) hl_X).trans (f_X o)
  replace HX_X := Lib.hid (HX_X.out.below hb)
  replace HX1 := Lib.hid (HX1.out.below hb)
  replace HX2 := Lib.hid (HX2.out.below hb)
  replace HB := Lib.hid (HB.out.trans (hb.mono hs0))
  replace hN : N ≤ w37.heap.size := Nat.le_trans hN hb.size
  replace hs0 : w.heap.size ≤ w37.heap.size := Nat.le_trans hs0 hb.size
  replace hl_X : w35.heap.size < w37.heap.size := Nat.lt_of_lt_of_le hl_X hb.size
  replace LH := Lib.hid (LH.out.below hb)
  replace HT := Lib.hid (HT.out.below hb)
  clear hb
  have HY1 := Lib.hid hn
  clear hn
  have HY2 := Lib.hid hn'
  clear hn'
  go_wp2_with fail
  refine calls_name fun W38 hW => ?_
  have HL_W38 := Lib.hid (show Below w37.heap.size w37 W38 by rw [← hW]; exact BlA)
  have hs_W38 : w37.heap.size ≤ W38.heap.size := by rw [← hW]; (first | omega | (simp; done) | (simp; omega))
  have hd_X_Y : w35.heap.size < w37.heap.size := by omega
  have HK_W38 := Lib.hid (show Kp N w37 W38 by rw [← hW]; exact KpA)
  replace k_X_0 : W38.cell? ⟨w35.heap.size, 0, none⟩ = some (.bool (decide ((px).num < 0))) := (HL_W38.out.cell (p := ⟨w35.heap.size, 0, none⟩) hl_X).trans k_X_0
  replace k_X_1 : W38.cell? ⟨w35.heap.size, 1, none⟩ = some (.slice rx (nlen (px).num.natAbs) cx) := (HL_W38.out.cell (p := ⟨w35.heap.size, 1, none⟩) hl_X).trans k_X_1
  replace k_X_2 : W38.cell? ⟨w35.heap.size, 2, none⟩ = some (.slice rx2 (nlen (px).den) cx2) := (HL_W38.out.cell (p := ⟨w35.heap.size, 2, none⟩) hl_X).trans k_X_2
  replace f_X : ∀ o, W38.frozen? ⟨w35.heap.size, o, none⟩ = false := fun o => (HL_W38.out.frozen (p := ⟨w35.heap.size, o, none⟩) hl_X).trans (f_X o)
  replace HX_X := Lib.hid (show Bn W38 (w35.heap.size) by rw [← hW]; exact KpA)
  have k_Y_0 : W38.cell? ⟨w37.heap.size, 0, none⟩ = some (.bool (decide ((py).num < 0))) := by rw [← hW]; (first | (go_simp; done) | (simp; done) | (simp [go_sem]; done) | (simp [go_sem, k_X_0, k_X_1, k_X_2, f_X, hl_X]; done))
  have k_Y_1 : W38.cell? ⟨w37.heap.size, 1, none⟩ = some (.slice ry (nlen (py).num.natAbs) cy) := by rw [← hW]; (first | (go_simp; done) | (simp; done) | (simp [go_sem]; done) | (simp [go_sem, k_X_0, k_X_1, k_X_2, f_X, hl_X]; done))
  have k_Y_2 : W38.cell? ⟨w37.heap.size, 2, none⟩ = some (.slice ry2 (nlen (py).den) cy2) := by rw [← hW]; (first | (go_simp; done) | (simp; done) | (simp [go_sem]; done) | (simp [go_sem, k_X_0, k_X_1, k_X_2, f_X, hl_X]; done))
  have f_Y : ∀ o, W38.frozen? ⟨w37.heap.size, o, none⟩ = false := by intro o; rw [← hW]; (first | (go_simp; done) | (simp; done) | (simp [go_sem]; done) | (simp [go_sem, k_X_0, k_X_1, k_X_2, f_X, hl_X]; done))
  have HX_Y := Lib.hid (show Bn W38 (w37.heap.size) by rw [← hW]; exact KpA)
  replace HX1 := Lib.hid (HX1.out.keep HK_W38.out)
  replace HX2 := Lib.hid (HX2.out.keep HK_W38.out)
  replace HY1 := Lib.hid (HY1.out.keep HK_W38.out)
  replace HY2 := Lib.hid (HY2.out.keep HK_W38.out)
  replace HB := Lib.hid (show Below w.heap.size w W38 by rw [← hW]; exact BlA)
  replace hN : N ≤ W38.heap.size := by rw [← hW]; (first | omega | (simp; done) | (simp; omega))
  replace hs0 : w.heap.size ≤ W38.heap.size := by rw [← hW]; (first | omega | (simp; done) | (simp; omega))
  replace hl_X : w35.heap.size < W38.heap.size := by rw [← hW]; (first | omega | (simp; done) | (simp; omega))
  have hl_Y : w37.heap.size < W38.heap.size := by rw [← hW]; (first | omega | (simp; done) | (simp; omega))
  replace LH := Lib.hid (LH.out.below HL_W38.out)
  replace HT := Lib.hid (HT.out.below HL_W38.out)
  clear HL_W38
  clear hW HK_W38
  have lt_LH := LH.out.lt
  refine (Both_in (N := N) _ 4 _ hdist 1 _ hN ((LH.out).rs (by unfold maxLen; omega) 1 (fun i hi => rsz_small _ (aw_hs i hi).1 (aw_hs i hi).2)) (by decide) aw_hv 0 (by decide) pz HPz.out).mono ?_
  rintro e w39 ⟨rz, cz, rz2, cz2, rfl, hn, hn', hb⟩
  have hs_w39 : W38.heap.size ≤ w39.heap.size := hb.size
  replace k_X_0 : w39.cell? ⟨w35.heap.size, 0, none⟩ = some (.bool (decide ((px).num < 0))) := (hb.cell (p := ⟨w35.heap.size, 0, none⟩) hl_X).trans k_X_0
  replace k_X_1 : w39.cell? ⟨w35.heap.size, 1, none⟩ = some (.slice rx (nlen (px).num.natAbs) cx) := (hb.cell (p := ⟨w35.heap.size, 1, none⟩) hl_X).trans k_X_1
  replace k_X_2 : w39.cell? ⟨w35.heap.size, 2, none⟩ = some (.slice rx2 (nlen (px).den) cx2) := (hb.cell (p := ⟨w35.heap.size, 2, none⟩) hl_X).trans k_X_2
  replace f_X : ∀ o, w39.frozen? ⟨w35.heap.size, o, none⟩ = false := fun o => (hb.frozen (p := ⟨w35.heap.size, o, none⟩) hl_X).trans (f_X o)
  replace HX_X := Lib.hid (HX_X.out.below hb)
  replace k_Y_0 : w39.cell? ⟨w37.heap.size, 0, none⟩ = some (.bool (decide ((py).num < 0))) := (hb.cell (p := ⟨w37.heap.size, 0, none⟩) hl_Y).trans k_Y_0
  replace k_Y_1 : w39.cell? ⟨w37.heap.size, 1, none⟩ = some (.slice ry (nlen (py).num.natAbs) cy) := (hb.cell (p := ⟨w37.heap.size, 1, none⟩) hl_Y).trans k_Y_1
  replace k_Y_2 : w39.cell? ⟨w37.heap.size, 2, none⟩ = some (.slice ry2 (nlen (py).den) cy2) := (hb.cell (p := ⟨w37.heap.size, 2, none⟩) hl_Y).trans k_Y_2
  replace f_Y : ∀ o, w39.frozen? ⟨w37.heap.size, o, none⟩ = false := fun o => (hb.frozen (p := ⟨w37.heap.size, o, none⟩) hl_Y).trans (f_Y o)
  replace HX_Y := Lib.hid (HX_Y.out.below hb)
  replace HX1 := Lib.hid (HX1.out.below hb)
  replace HX2 := Lib.hid (HX2.out.below hb)
  replace HY1 := Lib.hid (HY1.out.below hb)
  replace HY2 := Lib.hid (HY2.out.below hb)
  replace HB := Lib.hid (HB.out.trans (hb.mono hs0))
  replace hN : N ≤ w39.heap.size := Nat.le_trans hN hb.size
  replace hs0 : w.heap.size ≤ w39.heap.size := Nat.le_trans hs0 hb.size
  replace hl_X : w35.heap.size < w39.heap.size := Nat.lt_of_lt_of_le hl_X hb.size
  replace hl_Y : w37.heap.size < w39.heap.size := Nat.lt_of_lt_of_le hl_Y hb.size
  replace LH := Lib.hid (LH.out.below hb)
  replace HT := Lib.hid (HT.out.below hb)
  clear hb
  have HZ1 := Lib.hid hn
  clear hn
  have HZ2 := Lib.hid hn'
  clear hn'
  clear LH
  go_wp2_with fail
  refine calls_name fun W40 hW => ?_
  have HL_W40 := Lib.hid (show Below w39.heap.size w39 W40 by rw [← hW]; exact BlA)
  have hs_W40 : w39.heap.size ≤ W40.heap.size := by rw [← hW]; (first | omega | (simp; done) | (simp; omega))
  have hd_X_Z : w35.heap.size < w39.heap.size := by omega
  have hd_Y_Z : w37.heap.size < w39.heap.size := by omega
  have HK_W40 := Lib.hid (show Kp N w39 W40 by rw [← hW]; exact KpA)
  have HR_W40 := Lib.hid (show Rs N W40 (some ⟨w39.heap.size + 1, 0, none⟩) 3 3 (sel3 px py pz) 1 by rw [← hW]; refine Rs.below ?_ (bel1 _ _); exact Rs.three _ (by simp) ((Rt.of_norm HX1.out HX2.out 1 Hzx.out).alloc _) ((Rt.of_norm HY1.out HY2.out 1 Hzy.out).alloc _) ((Rt.of_norm HZ1.out HZ2.out 1 Hzz.out).alloc _))
  have HS_W40 := Lib.hid (show Ss W40 (some ⟨w39.heap.size + 1 + 1, 0, none⟩) 3 3 (sel3 ⟨#[49, 47, 50]⟩ ⟨#[49, 47, 56]⟩ ⟨#[49, 47, 52]⟩) by rw [← hW]; exact Ss.three _ _ (by simp) _ _ _)
  replace k_X_0 : W40.cell? ⟨w35.heap.size, 0, none⟩ = some (.bool (decide ((px).num < 0))) := (HL_W40.out.cell (p := ⟨w35.heap.size, 0, none⟩) hl_X).trans k_X_0
  replace k_X_1 : W40.cell? ⟨w35.heap.size, 1, none⟩ = some (.slice rx (nlen (px).num.natAbs) cx) := (HL_W40.out.cell (p := ⟨w35.heap.size, 1, none⟩) hl_X).trans k_X_1
  replace k_X_2 : W40.cell? ⟨w35.heap.size, 2, none⟩ = some (.slice rx2 (nlen (px).den) cx2) := (HL_W40.out.cell (p := ⟨w35.heap.size, 2, none⟩) hl_X).trans k_X_2
  replace f_X : ∀ o, W40.frozen? ⟨w35.heap.size, o, none⟩ = false := fun o => (HL_W40.out.frozen (p := ⟨w35.heap.size, o, none⟩) hl_X).trans (f_X o)
  replace HX_X := Lib.hid (show Bn W40 (w35.heap.size) by rw [← hW]; exact KpA)
  replace k_Y_0 : W40.cell? ⟨w37.heap.size, 0, none⟩ = some (.bool (decide ((py).num < 0))) := (HL_W40.out.cell (p := ⟨w37.heap.size, 0, none⟩) hl_Y).trans k_Y_0
  replace k_Y_1 : W40.cell? ⟨w37.heap.size, 1, none⟩ = some (.slice ry (nlen (py).num.natAbs) cy) := (HL_W40.out.cell (p := ⟨w37.heap.size, 1, none⟩) hl_Y).trans k_Y_1
  replace k_Y_2 : W40.cell? ⟨w37.heap.size, 2, none⟩ = some (.slice ry2 (nlen (py).den) cy2) := (HL_W40.out.cell (p := ⟨w37.heap.size, 2, none⟩) hl_Y).trans k_Y_2
  replace f_Y : ∀ o, W40.frozen? ⟨w37.heap.size, o, none⟩ = false := fun o => (HL_W40.out.frozen (p := ⟨w37.heap.size, o, none⟩) hl_Y).trans (f_Y o)
  replace HX_Y := Lib.hid (show Bn W40 (w37.heap.size) by rw [← hW]; exact KpA)
  have k_Z_0 : W40.cell? ⟨w39.heap.size, 0, none⟩ = some (.bool (decide ((pz).num < 0))) := by rw [← hW]; (first | (go_simp; done) | (simp; done) | (simp [go_sem]; done) | (simp [go_sem, k_X_0, k_X_1, k_X_2, k_Y_0, k_Y_1, k_Y_2, f_X, f_Y, hl_X, hl_Y]; done))
  have k_Z_1 : W40.cell? ⟨w39.heap.size, 1, none⟩ = some (.slice rz (nlen (pz).num.natAbs) cz) := by rw [← hW]; (first | (go_simp; done) | (simp; done) | (simp [go_sem]; done) | (simp [go_sem, k_X_0, k_X_1, k_X_2, k_Y_0, k_Y_1, k_Y_2, f_X, f_Y, hl_X, hl_Y]; done))
  have k_Z_2 : W40.cell? ⟨w39.heap.size, 2, none⟩ = some (.slice rz2 (nlen (pz).den) cz2) := by rw [← hW]; (first | (go_simp; done) | (simp; done) | (simp [go_sem]; done) | (simp [go_sem, k_X_0, k_X_1, k_X_2, k_Y_0, k_Y_1, k_Y_2, f_X, f_Y, hl_X, hl_Y]; done))
  have f_Z : ∀ o, W40.frozen? ⟨w39.heap.size, o, none⟩ = false := by intro o; rw [← hW]; (first | (go_simp; done) | (simp; done) | (simp [go_sem]; done) | (simp [go_sem, k_X_0, k_X_1, k_X_2, k_Y_0, k_Y_1, k_Y_2, f_X, f_Y, hl_X, hl_Y]; done))
  have HX_Z := Lib.hid (show Bn W40 (w39.heap.size) by rw [← hW]; exact KpA)
  replace HX1 := Lib.hid (HX1.out.keep HK_W40.out)
  replace HX2 := Lib.hid (HX2.out.keep HK_W40.out)
  replace HY1 := Lib.hid (HY1.out.keep HK_W40.out)
  replace HY2 := Lib.hid (HY2.out.keep HK_W40.out)
  replace HZ1 := Lib.hid (HZ1.out.keep HK_W40.out)
  replace HZ2 := Lib.hid (HZ2.out.keep HK_W40.out)
  replace HB := Lib.hid (show Below w.heap.size w W40 by rw [← hW]; exact BlA)
  replace hN : N ≤ W40.heap.size := by rw [← hW]; (first | omega | (simp; done) | (simp; omega))
  replace hs0 : w.heap.size ≤ W40.heap.size := by rw [← hW]; (first | omega | (simp; done) | (simp; omega))
  replace hl_X : w35.heap.size < W40.heap.size := by rw [← hW]; (first | omega | (simp; done) | (simp; omega))
  replace hl_Y : w37.heap.size < W40.heap.size := by rw [← hW]; (first | omega | (simp; done) | (simp; omega))
  have hl_Z : w39.heap.size < W40.heap.size := by rw [← hW]; (first | omega | (simp; done) | (simp; omega))
  replace HT := Lib.hid (HT.out.below HL_W40.out)
  clear HL_W40
  clear hW HK_W40
  refine (is_any (N := N) _ _ 3 _ _ (sel3 px py pz) _ 1 _ hN HR_W40.out HS_W40.out (by decide) HT.out (sel3_tx (by rw [← HPx.out, aw_x]; exact tx12) (by rw [← HPy.out, aw_y]; exact tx18) (by rw [← HPz.out, aw_z]; exact tx14))).mono ?_
  rintro e w41 ⟨rfl, hb⟩
  have hs_w41 : W40.heap.size ≤ w41.heap.size := hb.size
  replace k_X_0 : w41.cell? ⟨w35.heap.size, 0, none⟩ = some (.bool (decide ((px).num < 0))) := (hb.cell (p := ⟨w35.heap.size, 0, none⟩) hl_X).trans k_X_0
  replace k_X_1 : w41.cell? ⟨w35.heap.size, 1, none⟩ = some (.slice rx (nlen (px).num.natAbs) cx) := (hb.cell (p := ⟨w35.heap.size, 1, none⟩) hl_X).trans k_X_1
  replace k_X_2 : w41.cell? ⟨w35.heap.size, 2, none⟩ = some (.slice rx2 (nlen (px).den) cx2) := (hb.cell (p := ⟨w35.heap.size, 2, none⟩) hl_X).trans k_X_2
  replace f_X : ∀ o, w41.frozen? ⟨w35.heap.size, o, none⟩ = false := fun o => (hb.frozen (p := ⟨w35.heap.size, o, none⟩) hl_X).trans (f_X o)
  replace HX_X := Lib.hid (HX_X.out.below hb)
  replace k_Y_0 : w41.cell? ⟨w37.heap.size, 0, none⟩ = some (.bool (decide ((py).num < 0))) := (hb.cell (p := ⟨w37.heap.size, 0, none⟩) hl_Y).trans k_Y_0
  replace k_Y_1 : w41.cell? ⟨w37.heap.size, 1, none⟩ = some (.slice ry (nlen (py).num.natAbs) cy) := (hb.cell (p := ⟨w37.heap.size, 1, none⟩) hl_Y).trans k_Y_1
  replace k_Y_2 : w41.cell? ⟨w37.heap.size, 2, none⟩ = some (.slice ry2 (nlen (py).den) cy2) := (hb.cell (p := ⟨w37.heap.size, 2, none⟩) hl_Y).trans k_Y_2
  replace f_Y : ∀ o, w41.frozen? ⟨w37.heap.size, o, none⟩ = false := fun o => (hb.frozen (p := ⟨w37.heap.size, o, none⟩) hl_Y).trans (f_Y o)
  replace HX_Y := Lib.hid (HX_Y.out.below hb)
  replace k_Z_0 : w41.cell? ⟨w39.heap.size, 0, none⟩ = some (.bool (decide ((pz).num < 0))) := (hb.cell (p := ⟨w39.heap.size, 0, none⟩) hl_Z).trans k_Z_0
  replace k_Z_1 : w41.cell? ⟨w39.heap.size, 1, none⟩ = some (.slice rz (nlen (pz).num.natAbs) cz) := (hb.cell (p := ⟨w39.heap.size, 1, none⟩) hl_Z).trans k_Z_1
  replace k_Z_2 : w41.cell? ⟨w39.heap.size, 2, none⟩ = some (.slice rz2 (nlen (pz).den) cz2) := (hb.cell (p := ⟨w39.heap.size, 2, none⟩) hl_Z).trans k_Z_2
  replace f_Z : ∀ o, w41.frozen? ⟨w39.heap.size, o, none⟩ = false := fun o => (hb.frozen (p := ⟨w39.heap.size, o, none⟩) hl_Z).trans (f_Z o)
  replace HX_Z := Lib.hid (HX_Z.out.below hb)
  replace HX1 := Lib.hid (HX1.out.below hb)
  replace HX2 := Lib.hid (HX2.out.below hb)
  replace HY1 := Lib.hid (HY1.out.below hb)
  replace HY2 := Lib.hid (HY2.out.below hb)
  replace HZ1 := Lib.hid (HZ1.out.below hb)
  replace HZ2 := Lib.hid (HZ2.out.below hb)
  replace HB := Lib.hid (HB.out.trans (hb.mono hs0))
  replace hN : N ≤ w41.heap.size := Nat.le_trans hN hb.size
  replace hs0 : w.heap.size ≤ w41.heap.size := Nat.le_trans hs0 hb.size
  replace hl_X : w35.heap.size < w41.heap.size := Nat.lt_of_lt_of_le hl_X hb.size
  replace hl_Y : w37.heap.size < w41.heap.size := Nat.lt_of_lt_of_le hl_Y hb.size
  replace hl_Z : w39.heap.size < w41.heap.size := Nat.lt_of_lt_of_le hl_Z hb.size
  replace HT := Lib.hid (HT.out.below hb)
  clear hb
  clear hl_X f_X HX_X k_X_0 k_X_1 k_X_2
  clear hl_Y f_Y HX_Y k_Y_0 k_Y_1 k_Y_2
  clear hl_Z f_Z HX_Z k_Z_0 k_Z_1 k_Z_2
  clear HX1
  clear HX2
  clear HY1
  clear HY2
  clear HZ1
  clear HZ2
  go_wp2_with fail
  refine (part_any (N := N) 2 1 _ hN (by decide) (by decide) _ rfl).mono ?_
  rintro e w42 ⟨aa, da, rfl, hn, hb⟩
  have hs_w42 : w41.heap.size ≤ w42.heap.size := hb.size
  replace HB := Lib.hid (HB.out.trans (hb.mono hs0))
  replace hN : N ≤ w42.heap.size := Nat.le_trans hN hb.size
  replace hs0 : w.heap.size ≤ w42.heap.size := Nat.le_trans hs0 hb.size
  replace HT := Lib.hid (HT.out.below hb)
  clear hb
  have HQa := Lib.hid hn
  clear hn
  go_wp2_with fail
  refine (binomial_bad (N := N) 121 _ _ _ _ _ _ _ 1 (frq 2 1) _ hN HQa.out (by decide) pr21).mono ?_
  rintro e w43 ⟨rfl, hb⟩
  have hs_w43 : w42.heap.size ≤ w43.heap.size := hb.size
  replace HQa := Lib.hid (HQa.out.below hb)
  replace HB := Lib.hid (HB.out.trans (hb.mono hs0))
  replace hN : N ≤ w43.heap.size := Nat.le_trans hN hb.size
  replace hs0 : w.heap.size ≤ w43.heap.size := Nat.le_trans hs0 hb.size
  replace HT := Lib.hid (HT.out.below hb)
  clear hb
  clear HQa
  go_wp2_with fail
  refine (part_any (N := N) 1 2 _ hN (by decide) (by decide) _ rfl).mono ?_
  rintro e w44 ⟨aa, da, rfl, hn, hb⟩
  have hs_w44 : w43.heap.size ≤ w44.heap.size := hb.size
  replace HB := Lib.hid (HB.out.trans (hb.mono hs0))
  replace hN : N ≤ w44.heap.size := Nat.le_trans hN hb.size
  replace hs0 : w.heap.size ≤ w44.heap.size := Nat.le_trans hs0 hb.size
  replace HT := Lib.hid (HT.out.below hb)
  clear hb
  have HQa := Lib.hid hn
  clear hn
  go_wp2_with fail
  refine (binomial_range (N := N) 121 _ _ _ _ _ _ _ 1 (frq 1 2) _ hN HQa.out (by decide) pr12 (by decide)).mono ?_
  rintro e w45 ⟨rfl, hb⟩
  have hs_w45 : w44.heap.size ≤ w45.heap.size := hb.size
  replace HQa := Lib.hid (HQa.out.below hb)
  replace HB := Lib.hid (HB.out.trans (hb.mono hs0))
  replace hN : N ≤ w45.heap.size := Nat.le_trans hN hb.size
  replace hs0 : w.heap.size ≤ w45.heap.size := Nat.le_trans hs0 hb.size
  replace HT := Lib.hid (HT.out.below hb)
  clear hb
  go_wp2_with fail
  go_ret
  exact ⟨rfl, HB.out⟩

end Go.Proofs.YtbjgnpgachdlaaaGreatDoor
