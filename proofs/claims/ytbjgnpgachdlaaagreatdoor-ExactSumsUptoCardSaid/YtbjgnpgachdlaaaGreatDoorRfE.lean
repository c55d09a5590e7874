/- Contracts of the reference's Convolve and Trials (chapter 7). -/
import Derived.Test.YtbjgnpgachdlaaaGreatDoorRfD
import Derived.Test.YtbjgnpgachdlaaaGreatDoorRfS
namespace Go.Proofs.YtbjgnpgachdlaaaGreatDoor
open Go.RowKit

set_option maxHeartbeats 2000000 in
theorem xConvolve_bad {N : Nat} (a b : Option Addr) (n ca m cb : Nat) (x y : Nat → Rat) (L : Nat) (w : World) (hN : N ≤ w.heap.size) (h : Rs N w a n ca x L) (h' : Rs N w b m cb y L) (hL : L ≤ 2097152) (hv : valid x n = false ∨ valid y m = false) : Calls Tryz.prog 21 #[.slice a n ca, .slice b m cb] w (ErrPost w 1) := by
  cases hv1 : valid x n
  · have HV1 := Lib.hid hv1
    clear hv hv1
    have hN0 := hN
    have HA := Lib.hid h
    have HC := Lib.hid h'
    have bc1 := h.1
    have bc2 := h.2.1
    have bd1 := h'.1
    have bd2 := h'.2.1
    unfold maxLen at bc2 bd2
    clear h h'
    have HB := Lib.hid (Below.refl w.heap.size w)
    go_enter Tryz.func21, Tryz.ntmps21
    go_wp2_with fail
    refine calls_name fun W0 hW => ?_
    have hs_W0 : w.heap.size ≤ W0.heap.size := by rw [← hW]; (first | omega | (simp; done) | (simp; omega))
    have HL_W0 := Lib.hid (show Below w.heap.size w W0 by rw [← hW]; exact BlA)
    replace HB := Lib.hid (show Below w.heap.size w W0 by rw [← hW]; exact BlA)
    replace hN : N ≤ W0.heap.size := by rw [← hW]; (first | omega | (simp; done) | (simp; omega))
    have hs0 : w.heap.size ≤ W0.heap.size := by rw [← hW]; (first | omega | (simp; done) | (simp; omega))
    replace HA := Lib.hid (HA.out.below HL_W0.out)
    replace HC := Lib.hid (HC.out.below HL_W0.out)
    clear HL_W0
    clear hW
    refine (xvalid_any (N := N) _ _ _ x L _ hN HA.out hL false HV1.out).mono ?_
    rintro e wa ⟨rfl, hb⟩
    have hs_wa : W0.heap.size ≤ wa.heap.size := hb.size
    replace HB := Lib.hid (HB.out.trans (hb.mono hs0))
    replace hN : N ≤ wa.heap.size := Nat.le_trans hN hb.size
    replace hs0 : w.heap.size ≤ wa.heap.size := Nat.le_trans hs0 hb.size
    replace HA := Lib.hid (HA.out.below hb)
    replace HC := Lib.hid (HC.out.below hb)
    clear hb
    go_wp2_with fail
    go_ret2
    exact ⟨rfl, HB.out⟩
  · have HV1 := Lib.hid hv1
    have HV2 := Lib.hid (hv.resolve_left (by rw [hv1]; decide))
    clear hv hv1
    have hN0 := hN
    have HA := Lib.hid h
    have HC := Lib.hid h'
    have bc1 := h.1
    have bc2 := h.2.1
    have bd1 := h'.1
    have bd2 := h'.2.1
    unfold maxLen at bc2 bd2
    clear h h'
    have HB := Lib.hid (Below.refl w.heap.size w)
    go_enter Tryz.func21, Tryz.ntmps21
    go_wp2_with fail
    refine calls_name fun W0 hW => ?_
    have hs_W0 : w.heap.size ≤ W0.heap.size := by rw [← hW]; (first | omega | (simp; done) | (simp; omega))
    have HL_W0 := Lib.hid (show Below w.heap.size w W0 by rw [← hW]; exact BlA)
    replace HB := Lib.hid (show Below w.heap.size w W0 by rw [← hW]; exact BlA)
    replace hN : N ≤ W0.heap.size := by rw [← hW]; (first | omega | (simp; done) | (simp; omega))
    have hs0 : w.heap.size ≤ W0.heap.size := by rw [← hW]; (first | omega | (simp; done) | (simp; omega))
    replace HA := Lib.hid (HA.out.below HL_W0.out)
    replace HC := Lib.hid (HC.out.below HL_W0.out)
    clear HL_W0
    clear hW
    refine (xvalid_any (N := N) _ _ _ x L _ hN HA.out hL true HV1.out).mono ?_
    rintro e wa ⟨rfl, hb⟩
    have hs_wa : W0.heap.size ≤ wa.heap.size := hb.size
    replace HB := Lib.hid (HB.out.trans (hb.mono hs0))
    replace hN : N ≤ wa.heap.size := Nat.le_trans hN hb.size
    replace hs0 : w.heap.size ≤ wa.heap.size := Nat.le_trans hs0 hb.size
    replace HA := Lib.hid (HA.out.below hb)
    replace HC := Lib.hid (HC.out.below hb)
    clear hb
    go_wp2_with fail
    refine calls_name fun W1 hW => ?_
    have hs_W1 : wa.heap.size ≤ W1.heap.size := by rw [← hW]; (first | omega | (simp; done) | (simp; omega))
    have HL_W1 := Lib.hid (show Below wa.heap.size wa W1 by rw [← hW]; exact BlA)
    replace HB := Lib.hid (show Below w.heap.size w W1 by rw [← hW]; exact BlA)
    replace hN : N ≤ W1.heap.size := by rw [← hW]; (first | omega | (simp; done) | (simp; omega))
    replace hs0 : w.heap.size ≤ W1.heap.size := by rw [← hW]; (first | omega | (simp; done) | (simp; omega))
    replace HA := Lib.hid (HA.out.below HL_W1.out)
    replace HC := Lib.hid (HC.out.below HL_W1.out)
    clear HL_W1
    clear hW
    refine (xvalid_any (N := N) _ _ _ y L _ hN HC.out hL false HV2.out).mono ?_
    rintro e wb ⟨rfl, hb⟩
    have hs_wb : W1.heap.size ≤ wb.heap.size := hb.size
    replace HB := Lib.hid (HB.out.trans (hb.mono hs0))
    replace hN : N ≤ wb.heap.size := Nat.le_trans hN hb.size
    replace hs0 : w.heap.size ≤ wb.heap.size := Nat.le_trans hs0 hb.size
    replace HA := Lib.hid (HA.out.below hb)
    replace HC := Lib.hid (HC.out.below hb)
    clear hb
    go_wp2_with fail
    go_ret2
    exact ⟨rfl, HB.out⟩

set_option maxHeartbeats 2000000 in
theorem xConvolve_long {N : Nat} (a b : Option Addr) (n ca m cb : Nat) (x y : Nat → Rat) (L : Nat) (w : World) (hN : N ≤ w.heap.size) (h : Rs N w a n ca x L) (h' : Rs N w b m cb y L) (hL : L ≤ 2097152) (hvx : valid x n = true) (hvy : valid y m = true) (hlong : 122 < n + m) : Calls Tryz.prog 21 #[.slice a n ca, .slice b m cb] w (ErrPost w 5) := by
  have n1 := (valid_iff.1 hvx).1
  have n2 := (valid_iff.1 hvx).2.1
  have m1 := (valid_iff.1 hvy).1
  have m2 := (valid_iff.1 hvy).2.1
  have HV1 := Lib.hid hvx
  have HV2 := Lib.hid hvy
  clear hvx hvy
  obtain ⟨M, hM⟩ : ∃ M, n + m = M + 1 := ⟨n + m - 1, by omega⟩
  have hw1 := wrap_nm n m M hM (by omega)
  have hw2 : (n : Int) + (m : Int) - 1 = (M : Int) := by omega
  have d1 : decide (121 < (M : Int)) = true := by simp; omega
  have d1' : decide (121 < M) = true := by simp; omega
  have hN0 := hN
  have HA := Lib.hid h
  have HC := Lib.hid h'
  have bc1 := h.1
  have bc2 := h.2.1
  have bd1 := h'.1
  have bd2 := h'.2.1
  unfold maxLen at bc2 bd2
  clear h h'
  have HB := Lib.hid (Below.refl w.heap.size w)
  go_enter Tryz.func21, Tryz.ntmps21
  go_wp2_with fail
  refine calls_name fun W0 hW => ?_
  have hs_W0 : w.heap.size ≤ W0.heap.size := by rw [← hW]; (first | omega | (simp; done) | (simp; omega))
  have HL_W0 := Lib.hid (show Below w.heap.size w W0 by rw [← hW]; exact BlA)
  replace HB := Lib.hid (show Below w.heap.size w W0 by rw [← hW]; exact BlA)
  replace hN : N ≤ W0.heap.size := by rw [← hW]; (first | omega | (simp; done) | (simp; omega))
  have hs0 : w.heap.size ≤ W0.heap.size := by rw [← hW]; (first | omega | (simp; done) | (simp; omega))
  replace HA := Lib.hid (HA.out.below HL_W0.out)
  replace HC := Lib.hid (HC.out.below HL_W0.out)
  clear HL_W0
  clear hW
  refine (xvalid_any (N := N) _ _ _ x L _ hN HA.out hL true HV1.out).mono ?_
  rintro e wa ⟨rfl, hb⟩
  have hs_wa : W0.heap.size ≤ wa.heap.size := hb.size
  replace HB := Lib.hid (HB.out.trans (hb.mono hs0))
  replace hN : N ≤ wa.heap.size := Nat.le_trans hN hb.size
  replace hs0 : w.heap.size ≤ wa.heap.size := Nat.le_trans hs0 hb.size
  replace HA := Lib.hid (HA.out.below hb)
  replace HC := Lib.hid (HC.out.below hb)
  clear hb
  go_wp2_with fail
  refine calls_name fun W1 hW => ?_
  have hs_W1 : wa.heap.size ≤ W1.heap.size := by rw [← hW]; (first | omega | (simp; done) | (simp; omega))
  have HL_W1 := Lib.hid (show Below wa.heap.size wa W1 by rw [← hW]; exact BlA)
  replace HB := Lib.hid (show Below w.heap.size w W1 by rw [← hW]; exact BlA)
  replace hN : N ≤ W1.heap.size := by rw [← hW]; (first | omega | (simp; done) | (simp; omega))
  replace hs0 : w.heap.size ≤ W1.heap.size := by rw [← hW]; (first | omega | (simp; done) | (simp; omega))
  replace HA := Lib.hid (HA.out.below HL_W1.out)
  replace HC := Lib.hid (HC.out.below HL_W1.out)
  clear HL_W1
  clear hW
  refine (xvalid_any (N := N) _ _ _ y L _ hN HC.out hL true HV2.out).mono ?_
  rintro e wb ⟨rfl, hb⟩
  have hs_wb : W1.heap.size ≤ wb.heap.size := hb.size
  replace HB := Lib.hid (HB.out.trans (hb.mono hs0))
  replace hN : N ≤ wb.heap.size := Nat.le_trans hN hb.size
  replace hs0 : w.heap.size ≤ wb.heap.size := Nat.le_trans hs0 hb.size
  replace HA := Lib.hid (HA.out.below hb)
  replace HC := Lib.hid (HC.out.below hb)
  clear hb
  go_wp2_with fail
  go_ret2
  exact ⟨rfl, HB.out⟩

set_option maxHeartbeats 2000000 in
theorem xConvolve_ok {N : Nat} (a b : Option Addr) (n ca m cb : Nat) (x y : Nat → Rat) (L : Nat) (w : World) (hN : N ≤ w.heap.size) (h : Rs N w a n ca x L) (h' : Rs N w b m cb y L) (hL : L ≤ 2097152) (hvx : valid x n = true) (hvy : valid y m = true) (M : Nat) (hM : n + m = M + 1) (hshort : M ≤ 121) (p : Nat → Rat) (hp : ∀ k, k < M → cnv x n y m k = p k) : Calls Tryz.prog 21 #[.slice a n ca, .slice b m cb] w (RnPost N w M p) := by
  have n1 := (valid_iff.1 hvx).1
  have n2 := (valid_iff.1 hvx).2.1
  have m1 := (valid_iff.1 hvy).1
  have m2 := (valid_iff.1 hvy).2.1
  have HV1 := Lib.hid hvx
  have HV2 := Lib.hid hvy
  clear hvx hvy
  have hw1 := wrap_nm n m M hM (by omega)
  have hw2 : (n : Int) + (m : Int) - 1 = (M : Int) := by omega
  have d1 : decide (121 < (M : Int)) = false := by simp; omega
  have d1' : decide (121 < M) = false := by simp; omega
  have HP := Lib.hid hp
  clear hp
  have hN0 := hN
  have HA := Lib.hid h
  have HC := Lib.hid h'
  have bc1 := h.1
  have bc2 := h.2.1
  have bd1 := h'.1
  have bd2 := h'.2.1
  unfold maxLen at bc2 bd2
  clear h h'
  have HB := Lib.hid (Below.refl w.heap.size w)
  go_enter Tryz.func21, Tryz.ntmps21
  go_wp2_with fail
  refine calls_name fun W0 hW => ?_
  have hs_W0 : w.heap.size ≤ W0.heap.size := by rw [← hW]; (first | omega | (simp; done) | (simp; omega))
  have HL_W0 := Lib.hid (show Below w.heap.size w W0 by rw [← hW]; exact BlA)
  replace HB := Lib.hid (show Below w.heap.size w W0 by rw [← hW]; exact BlA)
  replace hN : N ≤ W0.heap.size := by rw [← hW]; (first | omega | (simp; done) | (simp; omega))
  have hs0 : w.heap.size ≤ W0.heap.size := by rw [← hW]; (first | omega | (simp; done) | (simp; omega))
  replace HA := Lib.hid (HA.out.below HL_W0.out)
  replace HC := Lib.hid (HC.out.below HL_W0.out)
  clear HL_W0
  clear hW
  refine (xvalid_any (N := N) _ _ _ x L _ hN HA.out hL true HV1.out).mono ?_
  rintro e wa ⟨rfl, hb⟩
  have hs_wa : W0.heap.size ≤ wa.heap.size := hb.size
  replace HB := Lib.hid (HB.out.trans (hb.mono hs0))
  replace hN : N ≤ wa.heap.size := Nat.le_trans hN hb.size
  replace hs0 : w.heap.size ≤ wa.heap.size := Nat.le_trans hs0 hb.size
  replace HA := Lib.hid (HA.out.below hb)
  replace HC := Lib.hid (HC.out.below hb)
  clear hb
  go_wp2_with fail
  refine calls_name fun W1 hW => ?_
  have hs_W1 : wa.heap.size ≤ W1.heap.size := by rw [← hW]; (first | omega | (simp; done) | (simp; omega))
  have HL_W1 := Lib.hid (show Below wa.heap.size wa W1 by rw [← hW]; exact BlA)
  replace HB := Lib.hid (show Below w.heap.size w W1 by rw [← hW]; exact BlA)
  replace hN : N ≤ W1.heap.size := by rw [← hW]; (first | omega | (simp; done) | (simp; omega))
  replace hs0 : w.heap.size ≤ W1.heap.size := by rw [← hW]; (first | omega | (simp; done) | (simp; omega))
  replace HA := Lib.hid (HA.out.below HL_W1.out)
  replace HC := Lib.hid (HC.out.below HL_W1.out)
  clear HL_W1
  clear hW
  refine (xvalid_any (N := N) _ _ _ y L _ hN HC.out hL true HV2.out).mono ?_
  rintro e wb ⟨rfl, hb⟩
  have hs_wb : W1.heap.size ≤ wb.heap.size := hb.size
  replace HB := Lib.hid (HB.out.trans (hb.mono hs0))
  replace hN : N ≤ wb.heap.size := Nat.le_trans hN hb.size
  replace hs0 : w.heap.size ≤ wb.heap.size := Nat.le_trans hs0 hb.size
  replace HA := Lib.hid (HA.out.below hb)
  replace HC := Lib.hid (HC.out.below hb)
  clear hb
  go_wp2_with fail
  refine calls_name fun W2 hW => ?_
  have hs_W2 : wb.heap.size ≤ W2.heap.size := by rw [← hW]; (first | omega | (simp; done) | (simp; omega))
  have HL_W2 := Lib.hid (show Below wb.heap.size wb W2 by rw [← hW]; exact BlA)
  replace HB := Lib.hid (show Below w.heap.size w W2 by rw [← hW]; exact BlA)
  replace hN : N ≤ W2.heap.size := by rw [← hW]; (first | omega | (simp; done) | (simp; omega))
  replace hs0 : w.heap.size ≤ W2.heap.size := by rw [← hW]; (first | omega | (simp; done) | (simp; omega))
  replace HA := Lib.hid (HA.out.below HL_W2.out)
  replace HC := Lib.hid (HC.out.below HL_W2.out)
  clear HL_W2
  clear hW
  refine (xprod_any (N := N) _ _ _ _ _ _ x y L L _ hN HA.out HC.out (by omega) (by omega) n1 m1 M hM hshort p HP.out).mono ?_
  rintro e wc ⟨g, rfl, hg, hn, hb⟩
  have hs_wc : W2.heap.size ≤ wc.heap.size := hb.size
  replace HB := Lib.hid (HB.out.trans (hb.mono hs0))
  replace hN : N ≤ wc.heap.size := Nat.le_trans hN hb.size
  replace hs0 : w.heap.size ≤ wc.heap.size := Nat.le_trans hs0 hb.size
  replace HA := Lib.hid (HA.out.below hb)
  replace HC := Lib.hid (HC.out.below hb)
  clear hb
  have HR := Lib.hid hn
  clear hn
  go_wp2_with fail
  go_ret2
  exact ⟨_, _, rfl, HR.out.rn (by unfold maxLen; omega), HB.out⟩

set_option maxHeartbeats 2000000 in
theorem xtrials_bad {N : Nat} (a : Option Addr) (n cap : Nat) (q : Nat → Rat) (L : Nat) (w : World) (hN : N ≤ w.heap.size) (h : Rs N w a n cap q L) (hL : L ≤ 2097152) (hx : ∃ j, j < n ∧ prb (q j) = false) : Calls Tryz.prog 19 #[.slice a n cap] w (ErrPost w 1) := by
  have HX := Lib.hid hx
  clear hx
  have hN0 := hN
  have HA := Lib.hid h
  have bc1 := h.1
  have bc2 := h.2.1
  unfold maxLen at bc2
  clear h
  go_enter Tryz.func19, Tryz.ntmps19
  go_wp2_with fail
  go_loopw [4] (fun i wr => ∃ k, k ≤ n ∧ i = .int .i64 ((k : Nat) : Int) ∧ (∀ j, j < k → prb (q j) = true) ∧ Below w.heap.size w wr ∧ w.heap.size ≤ wr.heap.size) (fun i _ => n - (intOf i).toNat)
  case atStart => exact ⟨0, Nat.zero_le _, rfl, fun j hj => by omega, Below.refl _ _, Nat.le_refl _⟩
  case round =>
    obtain ⟨k, hk, rfl, hpr, hbel, hsz⟩ := hrel
    clear hN
    have hN : N ≤ wr.heap.size := by omega
    have HB := Lib.hid hbel
    have hs0 := hsz
    have HAr := Lib.hid (HA.out.below hbel)
    have HPR := Lib.hid hpr
    clear hbel hpr
    by_cases hkn : k < n
    · obtain ⟨b0, o0, rfl, hc⟩ := HAr.out.2.2 (by omega)
      obtain ⟨s', ra, rnn, rc, da, dn, dc, g0, g1, g2, hr⟩ := hc k hkn
      have HR := Lib.hid hr
      clear hc hr HAr
      have hix0 : (0 : Int) ≤ (k : Int) := by omega
      have hix1 : (k : Int) < (n : Int) := by omega
      obtain ⟨b, hb0⟩ : ∃ b, prb (q k) = b := ⟨_, rfl⟩
      have HPB := Lib.hid hb0
      cases b
      · clear hb0
        go_wp2_with fail
        refine calls_name fun W1 hW => ?_
        have hs_W1 : wr.heap.size ≤ W1.heap.size := by rw [← hW]; (first | omega | (simp; done) | (simp; omega))
        have HK_W1 := Lib.hid (show Kp N wr W1 by rw [← hW]; exact KpA)
        replace HR := Lib.hid (HR.out.keep HK_W1.out)
        replace HB := Lib.hid (show Below w.heap.size w W1 by rw [← hW]; exact BlA)
        replace hN : N ≤ W1.heap.size := by rw [← hW]; (first | omega | (simp; done) | (simp; omega))
        replace hs0 : w.heap.size ≤ W1.heap.size := by rw [← hW]; (first | omega | (simp; done) | (simp; omega))
        clear hW HK_W1
        refine (Share_any (N := N) _ _ _ _ _ _ _ L (q k) _ hN HR.out (by omega) false HPB.out).mono ?_
        rintro e wb ⟨rfl, hb⟩
        have hs_wb : W1.heap.size ≤ wb.heap.size := hb.size
        replace HR := Lib.hid (HR.out.below hb)
        replace HB := Lib.hid (HB.out.trans (hb.mono hs0))
        replace hN : N ≤ wb.heap.size := Nat.le_trans hN hb.size
        replace hs0 : w.heap.size ≤ wb.heap.size := Nat.le_trans hs0 hb.size
        clear hb
        go_wp2_with fail
        go_ret2
        exact ⟨rfl, HB.out⟩
      · have HPR2 := Lib.hid (all_succ HPR.out hb0)
        clear hb0
        go_wp2_with fail
        refine calls_name fun W1 hW => ?_
        have hs_W1 : wr.heap.size ≤ W1.heap.size := by rw [← hW]; (first | omega | (simp; done) | (simp; omega))
        have HK_W1 := Lib.hid (show Kp N wr W1 by rw [← hW]; exact KpA)
        replace HR := Lib.hid (HR.out.keep HK_W1.out)
        replace HB := Lib.hid (show Below w.heap.size w W1 by rw [← hW]; exact BlA)
        replace hN : N ≤ W1.heap.size := by rw [← hW]; (first | omega | (simp; done) | (simp; omega))
        replace hs0 : w.heap.size ≤ W1.heap.size := by rw [← hW]; (first | omega | (simp; done) | (simp; omega))
        clear hW HK_W1
        refine (Share_any (N := N) _ _ _ _ _ _ _ L (q k) _ hN HR.out (by omega) true HPB.out).mono ?_
        rintro e wb ⟨rfl, hb⟩
        have hs_wb : W1.heap.size ≤ wb.heap.size := hb.size
        replace HR := Lib.hid (HR.out.below hb)
        replace HB := Lib.hid (HB.out.trans (hb.mono hs0))
        replace hN : N ≤ wb.heap.size := Nat.le_trans hN hb.size
        replace hs0 : w.heap.size ≤ wb.heap.size := Nat.le_trans hs0 hb.size
        clear hb
        go_wp2_with fail
        go_roundw
        case rel => exact ⟨k + 1, by omega, by go_num, HPR2.out, HB.out, hs0⟩
        case measure => simp [intOf]; omega
    · obtain rfl : k = n := by omega
      exfalso
      obtain ⟨j, hj, hf⟩ := HX.out
      rw [HPR.out j hj] at hf
      cases hf

set_option maxHeartbeats 2000000 in
theorem xtrials_long {N : Nat} (a : Option Addr) (n cap : Nat) (q : Nat → Rat) (L : Nat) (w : World) (hN : N ≤ w.heap.size) (h : Rs N w a n cap q L) (hL : L ≤ 2097152) (hx : ∀ j, j < n → prb (q j) = true) (hn : 121 ≤ n) : Calls Tryz.prog 19 #[.slice a n cap] w (ErrPost w 3) := by
  have HX := Lib.hid hx
  clear hx
  have hN0 := hN
  have HA := Lib.hid h
  have bc1 := h.1
  have bc2 := h.2.1
  unfold maxLen at bc2
  clear h
  go_enter Tryz.func19, Tryz.ntmps19
  go_wp2_with fail
  go_loopw [4] (fun i wr => ∃ k, k ≤ n ∧ i = .int .i64 ((k : Nat) : Int) ∧ (∀ j, j < k → prb (q j) = true) ∧ Below w.heap.size w wr ∧ w.heap.size ≤ wr.heap.size) (fun i _ => n - (intOf i).toNat)
  case atStart => exact ⟨0, Nat.zero_le _, rfl, fun j hj => by omega, Below.refl _ _, Nat.le_refl _⟩
  case round =>
    obtain ⟨k, hk, rfl, hpr, hbel, hsz⟩ := hrel
    clear hN
    have hN : N ≤ wr.heap.size := by omega
    have HB := Lib.hid hbel
    have hs0 := hsz
    have HAr := Lib.hid (HA.out.below hbel)
    have HPR := Lib.hid hpr
    clear hbel hpr
    by_cases hkn : k < n
    · obtain ⟨b0, o0, rfl, hc⟩ := HAr.out.2.2 (by omega)
      obtain ⟨s', ra, rnn, rc, da, dn, dc, g0, g1, g2, hr⟩ := hc k hkn
      have HR := Lib.hid hr
      clear hc hr HAr
      have hix0 : (0 : Int) ≤ (k : Int) := by omega
      have hix1 : (k : Int) < (n : Int) := by omega
      obtain ⟨b, hb0⟩ : ∃ b, prb (q k) = b := ⟨_, rfl⟩
      have HPB := Lib.hid hb0
      cases b
      · clear hb0
        go_wp2_with fail
        refine calls_name fun W1 hW => ?_
        have hs_W1 : wr.heap.size ≤ W1.heap.size := by rw [← hW]; (first | omega | (simp; done) | (simp; omega))
        have HK_W1 := Lib.hid (show Kp N wr W1 by rw [← hW]; exact KpA)
        replace HR := Lib.hid (HR.out.keep HK_W1.out)
        replace HB := Lib.hid (show Below w.heap.size w W1 by rw [← hW]; exact BlA)
        replace hN : N ≤ W1.heap.size := by rw [← hW]; (first | omega | (simp; done) | (simp; omega))
        replace hs0 : w.heap.size ≤ W1.heap.size := by rw [← hW]; (first | omega | (simp; done) | (simp; omega))
        clear hW HK_W1
        refine (Share_any (N := N) _ _ _ _ _ _ _ L (q k) _ hN HR.out (by omega) false HPB.out).mono ?_
        rintro e wb ⟨rfl, hb⟩
        have hs_wb : W1.heap.size ≤ wb.heap.size := hb.size
        replace HR := Lib.hid (HR.out.below hb)
        replace HB := Lib.hid (HB.out.trans (hb.mono hs0))
        replace hN : N ≤ wb.heap.size := Nat.le_trans hN hb.size
        replace hs0 : w.heap.size ≤ wb.heap.size := Nat.le_trans hs0 hb.size
        clear hb
        go_wp2_with fail
        exfalso
        have hf := HX.out k hkn
        rw [HPB.out] at hf
        cases hf
      · have HPR2 := Lib.hid (all_succ HPR.out hb0)
        clear hb0
        go_wp2_with fail
        refine calls_name fun W1 hW => ?_
        have hs_W1 : wr.heap.size ≤ W1.heap.size := by rw [← hW]; (first | omega | (simp; done) | (simp; omega))
        have HK_W1 := Lib.hid (show Kp N wr W1 by rw [← hW]; exact KpA)
        replace HR := Lib.hid (HR.out.keep HK_W1.out)
        replace HB := Lib.hid (show Below w.heap.size w W1 by rw [← hW]; exact BlA)
        replace hN : N ≤ W1.heap.size := by rw [← hW]; (first | omega | (simp; done) | (simp; omega))
        replace hs0 : w.heap.size ≤ W1.heap.size := by rw [← hW]; (first | omega | (simp; done) | (simp; omega))
        clear hW HK_W1
        refine (Share_any (N := N) _ _ _ _ _ _ _ L (q k) _ hN HR.out (by omega) true HPB.out).mono ?_
        rintro e wb ⟨rfl, hb⟩
        have hs_wb : W1.heap.size ≤ wb.heap.size := hb.size
        replace HR := Lib.hid (HR.out.below hb)
        replace HB := Lib.hid (HB.out.trans (hb.mono hs0))
        replace hN : N ≤ wb.heap.size := Nat.le_trans hN hb.size
        replace hs0 : w.heap.size ≤ wb.heap.size := Nat.le_trans hs0 hb.size
        clear hb
        go_wp2_with fail
        go_roundw
        case rel => exact ⟨k + 1, by omega, by go_num, HPR2.out, HB.out, hs0⟩
        case measure => simp [intOf]; omega
    · obtain rfl : k = n := by omega
      have d1 : decide (121 ≤ (k : Int)) = true := by simp; omega
      have d1' : decide (121 ≤ k) = true := by simp; omega
      go_wp2_with fail
      go_ret2
      exact ⟨rfl, HB.out⟩

/-- u is a list of two rational numbers -/
def IsTwo (N : Nat) (q : Nat → Rat) (L : Nat) (u : Value) (w : World) : Prop := ∃ g, u = .slice (some ⟨g, 0, none⟩) 2 2 ∧ Rs N w (some ⟨g, 0, none⟩) 2 2 q L
theorem IsTwo.below {N : Nat} {q : Nat → Rat} {L : Nat} {u : Value} {w w' : World} (h : IsTwo N q L u w) (hb : Below w.heap.size w w') : IsTwo N q L u w' := by
  obtain ⟨g, e, h⟩ := h; exact ⟨g, e, h.below hb⟩
/-- u is a list of n rational numbers in normal form -/
def IsRn (N n : Nat) (q : Nat → Rat) (u : Value) (w : World) : Prop := ∃ a cap, u = .slice a n cap ∧ Rn N w a n cap q
theorem IsRn.below {N n : Nat} {q : Nat → Rat} {u : Value} {w w' : World} (h : IsRn N n q u w) (hb : Below w.heap.size w w') : IsRn N n q u w' := by
  obtain ⟨a, c, e, h⟩ := h; exact ⟨a, c, e, h.below hb⟩
theorem rs_two {N : Nat} {w : World} {s s' : Bool} {a d a' d' : Option Addr} {na ca nd cd na' ca' nd' cd' L : Nat} {x y : Rat} (h : Rt N w s a na ca d nd cd x L) (h' : Rt N w s' a' na' ca' d' nd' cd' y L) :
    Rs N (w.alloc (.cells #[.bool s, .slice a na ca, .slice d nd cd, .bool s', .slice a' na' ca', .slice d' nd' cd'] 28)) (some ⟨w.heap.size, 0, none⟩) 2 2 (two x y) L := by
  refine ⟨Nat.le_refl _, by decide, fun _ => ⟨w.heap.size, 0, rfl, fun i hi => ?_⟩⟩
  obtain rfl | rfl : i = 0 ∨ i = 1 := by omega
  · exact ⟨s, a, na, ca, d, nd, cd, by simp, by simp, by simp, h.below (bel1 w _)⟩
  · exact ⟨s', a', na', ca', d', nd', cd', by simp, by simp, by simp, h'.below (bel1 w _)⟩
theorem rn_one {N : Nat} {w : World} {p : Rat} {r r2 : Option Addr} {c c2 : Nat} (h : Nt N w r (nlen p.num.natAbs) c p.num.natAbs) (h' : Nt N w r2 (nlen p.den) c2 p.den) (q : Nat → Rat) (hq : q 0 = p) :
    Rn N (w.alloc (.cells #[.bool (decide (p.num < 0)), .slice r (nlen p.num.natAbs) c, .slice r2 (nlen p.den) c2] 28)) (some ⟨w.heap.size, 0, none⟩) 1 1 q := by
  refine ⟨Nat.le_refl _, by decide, fun _ => ⟨w.heap.size, 0, rfl, fun i hi => ?_⟩⟩
  obtain rfl : i = 0 := by omega
  rw [hq]
  exact ⟨r, c, r2, c2, by simp, by simp, by simp, h.below (bel1 w _), h'.below (bel1 w _)⟩
theorem tri_one (q : Nat → Rat) (p : Rat) (hp : ((1 : Nat) : Rat) = p) : tri q 0 0 = p := by rw [natQ_one p hp]; rfl

def TrlJ (N LL n cap i : Nat) (q : Nat → Rat) (p1 pf : Rat) (ao : Option Addr) (co : Nat) (s' : Bool) (ra da : Option Addr) (rnn rc dn dc b0 o0 : Nat) (W : World) (z0 : Act) (L : Nat → Bool) (z1 : Act) (w : World) : Prop :=
  ∃ u30 u31 u32 u33 u34 u35 u36 u37 u38 u39 u40 u41 u42,
    (z1 = (((((((((((((z0.put (some 30) u30).put (some 31) u31).put (some 32) u32).put (some 33) u33).put (some 34) u34).put (some 35) u35).put (some 36) u36).put (some 37) u37).put (some 38) u38).put (some 39) u39).put (some 40) u40).put (some 41) u41).put (some 42) u42) ∧ L 13 = false ∧ Since W w ∧ (L 0 = true → u30 = .slice ao (i + 1) co) ∧ (L 1 = true → IsRat N p1 u31 w) ∧ (L 2 = true → u32 = .slice (some ⟨b0, o0, none⟩) n cap) ∧ (L 3 = true → u33 = .int .i64 i) ∧ (L 4 = true → u34 = .pointer (some ⟨b0, o0 + i * 3, none⟩)) ∧ (L 5 = true → u35 = .agg #[.bool s', .slice ra rnn rc, .slice da dn dc]) ∧ (L 6 = true → IsRat N pf u36 w) ∧ (L 7 = true → u37 = .slice (some ⟨b0, o0, none⟩) n cap) ∧ (L 8 = true → u38 = .int .i64 i) ∧ (L 9 = true → u39 = .pointer (some ⟨b0, o0 + i * 3, none⟩)) ∧ (L 10 = true → u40 = .agg #[.bool s', .slice ra rnn rc, .slice da dn dc]) ∧ (L 11 = true → IsTwo N (two pf (q i)) LL u41 w) ∧ (L 12 = true → IsRn N (i + 1 + 1) (tri q (i + 1)) u42 w)) ∨
     (∃ v, z1 = (((((((((((((z0.put (some 30) u30).put (some 31) u31).put (some 32) u32).put (some 33) u33).put (some 34) u34).put (some 35) u35).put (some 36) u36).put (some 37) u37).put (some 38) u38).put (some 39) u39).put (some 40) u40).put (some 41) u41).put (some 42) u42).put (some 5) v ∧ L 13 = true ∧ (∀ j, j < 13 → L j = true) ∧ (IsRn N (i + 1 + 1) (tri q (i + 1)) v w ∧ Since W w))


theorem szQ_mono (q : Nat → Rat) {i k : Nat} (h : i ≤ k) : szQ q i ≤ szQ q k := by
  induction h with
  | refl => exact Nat.le_refl _
  | step _ ih => exact Nat.le_trans ih (Nat.le_add_right _ _)

set_option maxHeartbeats 16000000 in
theorem xtrials_ok {N : Nat} (a : Option Addr) (n cap : Nat) (q : Nat → Rat) (L : Nat) (w : World) (hN : N ≤ w.heap.size) (h : Rs N w a n cap q L) (hL : L ≤ 2097152) (hx : ∀ j, j < n → prb (q j) = true) (hn : n ≤ 120) (hz : szQ q n ≤ 1048576) : Calls Tryz.prog 19 #[.slice a n cap] w (RnPost N w (n + 1) (tri q n)) := by
  have HX := Lib.hid hx
  have HLim := Lib.hid h.lim
  obtain ⟨p1, hp1⟩ : ∃ p : Rat, ((1 : Nat) : Rat) = p := ⟨_, rfl⟩
  have HP1 := Lib.hid hp1
  have HZ1 := Lib.hid (rsz_nat 1 (by decide) p1 hp1)
  have HT0 := Lib.hid (tri_one q p1 hp1)
  clear hx hp1
  have hN0 := hN
  have HA := Lib.hid h
  have bc1 := h.1
  have bc2 := h.2.1
  unfold maxLen at bc2
  clear h
  go_enter Tryz.func19, Tryz.ntmps19
  go_wp2_with fail
  go_loopw [4] (fun i wr => ∃ k, k ≤ n ∧ i = .int .i64 ((k : Nat) : Int) ∧ (∀ j, j < k → prb (q j) = true) ∧ Below w.heap.size w wr ∧ w.heap.size ≤ wr.heap.size) (fun i _ => n - (intOf i).toNat)
  case atStart => exact ⟨0, Nat.zero_le _, rfl, fun j hj => by omega, Below.refl _ _, Nat.le_refl _⟩
  case round =>
    obtain ⟨k, hk, rfl, hpr, hbel, hsz⟩ := hrel
    clear hN
    have hN : N ≤ wr.heap.size := by omega
    have HB := Lib.hid hbel
    have hs0 := hsz
    have HAr := Lib.hid (HA.out.below hbel)
    have HPR := Lib.hid hpr
    clear hbel hpr
    by_cases hkn : k < n
    · obtain ⟨b0, o0, rfl, hc⟩ := HAr.out.2.2 (by omega)
      obtain ⟨s', ra, rnn, rc, da, dn, dc, g0, g1, g2, hr⟩ := hc k hkn
      have HR := Lib.hid hr
      clear hc hr HAr
      have hix0 : (0 : Int) ≤ (k : Int) := by omega
      have hix1 : (k : Int) < (n : Int) := by omega
      obtain ⟨b, hb0⟩ : ∃ b, prb (q k) = b := ⟨_, rfl⟩
      have HPB := Lib.hid hb0
      cases b
      · clear hb0
        go_wp2_with fail
        refine calls_name fun W1 hW => ?_
        have hs_W1 : wr.heap.size ≤ W1.heap.size := by rw [← hW]; (first | omega | (simp; done) | (simp; omega))
        have HK_W1 := Lib.hid (show Kp N wr W1 by rw [← hW]; exact KpA)
        replace HR := Lib.hid (HR.out.keep HK_W1.out)
        replace HB := Lib.hid (show Below w.heap.size w W1 by rw [← hW]; exact BlA)
        replace hN : N ≤ W1.heap.size := by rw [← hW]; (first | omega | (simp; done) | (simp; omega))
        replace hs0 : w.heap.size ≤ W1.heap.size := by rw [← hW]; (first | omega | (simp; done) | (simp; omega))
        clear hW HK_W1
        refine (Share_any (N := N) _ _ _ _ _ _ _ L (q k) _ hN HR.out (by omega) false HPB.out).mono ?_
        rintro e wb ⟨rfl, hb⟩
        have hs_wb : W1.heap.size ≤ wb.heap.size := hb.size
        replace HR := Lib.hid (HR.out.below hb)
        replace HB := Lib.hid (HB.out.trans (hb.mono hs0))
        replace hN : N ≤ wb.heap.size := Nat.le_trans hN hb.size
        replace hs0 : w.heap.size ≤ wb.heap.size := Nat.le_trans hs0 hb.size
        clear hb
        go_wp2_with fail
        exfalso
        have hf := HX.out k hkn
        rw [HPB.out] at hf
        cases hf
      · have HPR2 := Lib.hid (all_succ HPR.out hb0)
        clear hb0
        go_wp2_with fail
        refine calls_name fun W1 hW => ?_
        have hs_W1 : wr.heap.size ≤ W1.heap.size := by rw [← hW]; (first | omega | (simp; done) | (simp; omega))
        have HK_W1 := Lib.hid (show Kp N wr W1 by rw [← hW]; exact KpA)
        replace HR := Lib.hid (HR.out.keep HK_W1.out)
        replace HB := Lib.hid (show Below w.heap.size w W1 by rw [← hW]; exact BlA)
        replace hN : N ≤ W1.heap.size := by rw [← hW]; (first | omega | (simp; done) | (simp; omega))
        replace hs0 : w.heap.size ≤ W1.heap.size := by rw [← hW]; (first | omega | (simp; done) | (simp; omega))
        clear hW HK_W1
        refine (Share_any (N := N) _ _ _ _ _ _ _ L (q k) _ hN HR.out (by omega) true HPB.out).mono ?_
        rintro e wb ⟨rfl, hb⟩
        have hs_wb : W1.heap.size ≤ wb.heap.size := hb.size
        replace HR := Lib.hid (HR.out.below hb)
        replace HB := Lib.hid (HB.out.trans (hb.mono hs0))
        replace hN : N ≤ wb.heap.size := Nat.le_trans hN hb.size
        replace hs0 : w.heap.size ≤ wb.heap.size := Nat.le_trans hs0 hb.size
        clear hb
        go_wp2_with fail
        go_roundw
        case rel => exact ⟨k + 1, by omega, by go_num, HPR2.out, HB.out, hs0⟩
        case measure => simp [intOf]; omega
    · obtain rfl : k = n := by omega
      have d1 : decide (121 ≤ (k : Int)) = false := by simp; omega
      have d1' : decide (121 ≤ k) = false := by simp; omega
      clear HAr HPR
      go_wp2_with fail
      refine calls_name fun W1 hW => ?_
      have hs_W1 : wr.heap.size ≤ W1.heap.size := by rw [← hW]; (first | omega | (simp; done) | (simp; omega))
      replace HB := Lib.hid (show Below w.heap.size w W1 by rw [← hW]; exact BlA)
      replace hN : N ≤ W1.heap.size := by rw [← hW]; (first | omega | (simp; done) | (simp; omega))
      replace hs0 : w.heap.size ≤ W1.heap.size := by rw [← hW]; (first | omega | (simp; done) | (simp; omega))
      clear hW
      refine (Whole_z (N := N) 1 1 rfl _ hN (by omega) p1 HP1.out).mono ?_
      rintro e wa ⟨rz, cz, rz2, cz2, rfl, hn, hn', hb⟩
      have hs_wa : W1.heap.size ≤ wa.heap.size := hb.size
      replace HB := Lib.hid (HB.out.trans (hb.mono hs0))
      replace hN : N ≤ wa.heap.size := Nat.le_trans hN hb.size
      replace hs0 : w.heap.size ≤ wa.heap.size := Nat.le_trans hs0 hb.size
      clear hb
      have HY1 := Lib.hid hn
      clear hn
      have HY2 := Lib.hid hn'
      clear hn'
      go_wp2_with fail
      go_loopw [5, 6] (fun v j wr => ∃ i a' c', i ≤ k ∧ j = .int .i64 ((i : Nat) : Int) ∧ v = .slice a' (i + 1) c' ∧ Rn N wr a' (i + 1) c' (tri q i) ∧ Below w.heap.size w wr ∧ w.heap.size ≤ wr.heap.size) (fun _ j _ => k - (intOf j).toNat)
      case atStart => exact ⟨0, _, _, Nat.zero_le _, rfl, rfl, rn_one HY1.out HY2.out (tri q 0) HT0.out, HB.out.alloc hs0 _, by simp; omega⟩
      case round =>
        obtain ⟨i, ao, co, hi, rfl, rfl, ho, hbel, hsz2⟩ := hrel
        clear HB hs0 hN HY1 HY2
        have hN : N ≤ wr.heap.size := by omega
        have HO := Lib.hid ho
        have HB := Lib.hid hbel
        have hs0 := hsz2
        have HAr := Lib.hid (HA.out.below hbel)
        clear ho hbel
        by_cases hik : i < k
        · obtain ⟨b0, o0, rfl, hc⟩ := HAr.out.2.2 (by omega)
          obtain ⟨s', ra, rnn, rc, da, dn, dc, g0, g1, g2, hr⟩ := hc i hik
          have HR := Lib.hid hr
          have hlb : b0 < wr.heap.size := World.block_lt_of_cell? wr _ g0
          clear hc hr HAr
          have hix0 : (0 : Int) ≤ (i : Int) := by omega
          have hix1 : (i : Int) < (k : Int) := by omega
          obtain ⟨pf, hpf⟩ : ∃ p, p1 - q i = p := ⟨_, rfl⟩
          have HPF := Lib.hid hpf
          have HZF := Lib.hid (show rsz pf ≤ L + 2 by rw [← hpf]; have h1 := rsz_subx p1 (q i); have h2 := HZ1.out; have h3 := HLim.out i hik; omega)
          have HZT := Lib.hid (show ∀ j, j < i + 1 → rsz (tri q i j) ≤ 2097152 from fun j hj => by have h1 := tri_rsz q i (fun j hj => HX.out j (by omega)) j hj; have h2 := szQ_mono q (show i ≤ k by omega); omega)
          have HTC := Lib.hid (show ∀ j, j < i + 1 + 1 → cnv (tri q i) (i + 1) (two pf (q i)) 2 j = tri q (i + 1) j from fun j _ => by rw [← hpf, natQ_one p1 HP1.out]; exact (tri_cnv q i j).symm)
          clear hpf
          go_wp2_with fail
          refine region_name fun W5 hW => ?_
          have hs_W5 : wr.heap.size ≤ W5.heap.size := by rw [← hW]; (first | omega | (simp; done) | (simp; omega))
          have HK_W5 := Lib.hid (show Kp N wr W5 by rw [← hW]; exact KpA)
          rw [hW] at g0 g1 g2 hlb
          have HL_W5 := Lib.hid (show Below wr.heap.size wr W5 by rw [← hW]; exact BlA)
          replace HR := Lib.hid (HR.out.keep HK_W5.out)
          replace HB := Lib.hid (show Below w.heap.size w W5 by rw [← hW]; exact BlA)
          replace hN : N ≤ W5.heap.size := by rw [← hW]; (first | omega | (simp; done) | (simp; omega))
          replace hs0 : w.heap.size ≤ W5.heap.size := by rw [← hW]; (first | omega | (simp; done) | (simp; omega))
          replace HO := Lib.hid (HO.out.below HL_W5.out)
          clear HL_W5
          clear hW HK_W5
          refine region_inv2 (by kernel_rfl) (TrlJ N (L + 2) k cap i q p1 pf ao co s' ra da rnn rc dn dc b0 o0 (W5)) ?_ ?_ ?_ ?_
          · exact ⟨u30, u31, u32, u33, u34, u35, u36, u37, u38, u39, u40, u41, u42, .inl ⟨by simp only [Act.put, List.setIfInBounds_toArray, List.set_cons_zero, List.set_cons_succ], rfl, Since.drawn _, (fun h => by cases h), (fun h => by cases h), (fun h => by cases h), (fun h => by cases h), (fun h => by cases h), (fun h => by cases h), (fun h => by cases h), (fun h => by cases h), (fun h => by cases h), (fun h => by cases h), (fun h => by cases h), (fun h => by cases h), (fun h => by cases h)⟩⟩
          · exact acyc_spec (by kernel_rfl)
          · intro Ls a0 wq i o ho hLi hafter hJ
            obtain ⟨u30, u31, u32, u33, u34, u35, u36, u37, u38, u39, u40, u41, u42, hJ | ⟨v, rfl, h10, hall, _⟩⟩ := hJ
            · obtain ⟨rfl, hLl, hS, p0, p1, p2, p3, p4, p5, p6, p7, p8, p9, p10, p11, p12⟩ := hJ
              have hi : i < 14 := (Array.getElem?_eq_some_iff.1 ho).1
              obtain rfl | rfl | rfl | rfl | rfl | rfl | rfl | rfl | rfl | rfl | rfl | rfl | rfl | rfl : i = 0 ∨ i = 1 ∨ i = 2 ∨ i = 3 ∨ i = 4 ∨ i = 5 ∨ i = 6 ∨ i = 7 ∨ i = 8 ∨ i = 9 ∨ i = 10 ∨ i = 11 ∨ i = 12 ∨ i = 13 := by omega
              · simp only [List.getElem?_toArray, List.getElem?_cons_zero, Option.some.injEq] at ho
                subst ho
                have P0 := Lib.hid p0
                have P1 := Lib.hid p1
                have P2 := Lib.hid p2
                have P3 := Lib.hid p3
                have P4 := Lib.hid p4
                have P5 := Lib.hid p5
                have P6 := Lib.hid p6
                have P7 := Lib.hid p7
                have P8 := Lib.hid p8
                have P9 := Lib.hid p9
                have P10 := Lib.hid p10
                have P11 := Lib.hid p11
                have P12 := Lib.hid p12
                have HS := Lib.hid hS
                clear hS hLi hafter p0 p1 p2 p3 p4 p5 p6 p7 p8 p9 p10 p11 p12
                simp only [Act.put, List.setIfInBounds_toArray, List.set_cons_zero, List.set_cons_succ]
                go_wp2_with fail
                exact ⟨.slice ao (i + 1) co, u31, u32, u33, u34, u35, u36, u37, u38, u39, u40, u41, u42, .inl ⟨by simp only [Act.put, List.setIfInBounds_toArray, List.set_cons_zero, List.set_cons_succ], by simpa using hLl, HS.out, (fun _ => rfl), (fun h => P1.out (by simpa using h)), (fun h => by first | rfl | exact P2.out (by simpa using h)), (fun h => by first | rfl | exact P3.out (by simpa using h)), (fun h => by first | rfl | exact P4.out (by simpa using h)), (fun h => by first | rfl | exact P5.out (by simpa using h)), (fun h => P6.out (by simpa using h)), (fun h => by first | rfl | exact P7.out (by simpa using h)), (fun h => by first | rfl | exact P8.out (by simpa using h)), (fun h => by first | rfl | exact P9.out (by simpa using h)), (fun h => by first | rfl | exact P10.out (by simpa using h)), (fun h => P11.out (by simpa using h)), (fun h => P12.out (by simpa using h))⟩⟩
              · simp only [List.getElem?_toArray, List.getElem?_cons_zero, List.getElem?_cons_succ, Option.some.injEq] at ho
                subst ho
                have P0 := Lib.hid p0
                have P1 := Lib.hid p1
                have P2 := Lib.hid p2
                have P3 := Lib.hid p3
                have P4 := Lib.hid p4
                have P5 := Lib.hid p5
                have P6 := Lib.hid p6
                have P7 := Lib.hid p7
                have P8 := Lib.hid p8
                have P9 := Lib.hid p9
                have P10 := Lib.hid p10
                have P11 := Lib.hid p11
                have P12 := Lib.hid p12
                have HS := Lib.hid hS
                clear hS hLi hafter p0 p1 p2 p3 p4 p5 p6 p7 p8 p9 p10 p11 p12
                simp only [Act.put, List.setIfInBounds_toArray, List.set_cons_zero, List.set_cons_succ]
                go_wp2_with fail
                refine (Whole_z (N := N) 1 1 rfl _ (by have := HS.out.2; omega) (by omega) p1 HP1.out).mono ?_
                rintro e wn ⟨r, c, r2, c2, rfl, hn, hn', hb⟩
                have HN := Lib.hid hn
                have HM := Lib.hid hn'
                have Hb := Lib.hid hb
                clear hn hn' hb
                go_wp2_with fail
                exact ⟨u30, _, u32, u33, u34, u35, u36, u37, u38, u39, u40, u41, u42, .inl ⟨by simp only [Act.put, List.setIfInBounds_toArray, List.set_cons_zero, List.set_cons_succ], by simpa using hLl, HS.out.below Hb.out, (fun h => by first | rfl | exact P0.out (by simpa using h)), (fun _ => ⟨r, c, r2, c2, rfl, HN.out, HM.out⟩), (fun h => by first | rfl | exact P2.out (by simpa using h)), (fun h => by first | rfl | exact P3.out (by simpa using h)), (fun h => by first | rfl | exact P4.out (by simpa using h)), (fun h => by first | rfl | exact P5.out (by simpa using h)), (fun h => (P6.out (by simpa using h)).below Hb.out), (fun h => by first | rfl | exact P7.out (by simpa using h)), (fun h => by first | rfl | exact P8.out (by simpa using h)), (fun h => by first | rfl | exact P9.out (by simpa using h)), (fun h => by first | rfl | exact P10.out (by simpa using h)), (fun h => (P11.out (by simpa using h)).below Hb.out), (fun h => (P12.out (by simpa using h)).below Hb.out)⟩⟩
              · simp only [List.getElem?_toArray, List.getElem?_cons_zero, List.getElem?_cons_succ, Option.some.injEq] at ho
                subst ho
                have P0 := Lib.hid p0
                have P1 := Lib.hid p1
                have P2 := Lib.hid p2
                have P3 := Lib.hid p3
                have P4 := Lib.hid p4
                have P5 := Lib.hid p5
                have P6 := Lib.hid p6
                have P7 := Lib.hid p7
                have P8 := Lib.hid p8
                have P9 := Lib.hid p9
                have P10 := Lib.hid p10
                have P11 := Lib.hid p11
                have P12 := Lib.hid p12
                have HS := Lib.hid hS
                clear hS hLi hafter p0 p1 p2 p3 p4 p5 p6 p7 p8 p9 p10 p11 p12
                simp only [Act.put, List.setIfInBounds_toArray, List.set_cons_zero, List.set_cons_succ]
                go_wp2_with fail
                exact ⟨u30, u31, .slice (some ⟨b0, o0, none⟩) k cap, u33, u34, u35, u36, u37, u38, u39, u40, u41, u42, .inl ⟨by simp only [Act.put, List.setIfInBounds_toArray, List.set_cons_zero, List.set_cons_succ], by simpa using hLl, HS.out, (fun h => by first | rfl | exact P0.out (by simpa using h)), (fun h => P1.out (by simpa using h)), (fun _ => rfl), (fun h => by first | rfl | exact P3.out (by simpa using h)), (fun h => by first | rfl | exact P4.out (by simpa using h)), (fun h => by first | rfl | exact P5.out (by simpa using h)), (fun h => P6.out (by simpa using h)), (fun h => by first | rfl | exact P7.out (by simpa using h)), (fun h => by first | rfl | exact P8.out (by simpa using h)), (fun h => by first | rfl | exact P9.out (by simpa using h)), (fun h => by first | rfl | exact P10.out (by simpa using h)), (fun h => P11.out (by simpa using h)), (fun h => P12.out (by simpa using h))⟩⟩
              · simp only [List.getElem?_toArray, List.getElem?_cons_zero, List.getElem?_cons_succ, Option.some.injEq] at ho
                subst ho
                have P0 := Lib.hid p0
                have P1 := Lib.hid p1
                have P2 := Lib.hid p2
                have P3 := Lib.hid p3
                have P4 := Lib.hid p4
                have P5 := Lib.hid p5
                have P6 := Lib.hid p6
                have P7 := Lib.hid p7
                have P8 := Lib.hid p8
                have P9 := Lib.hid p9
                have P10 := Lib.hid p10
                have P11 := Lib.hid p11
                have P12 := Lib.hid p12
                have HS := Lib.hid hS
                clear hS hLi hafter p0 p1 p2 p3 p4 p5 p6 p7 p8 p9 p10 p11 p12
                simp only [Act.put, List.setIfInBounds_toArray, List.set_cons_zero, List.set_cons_succ]
                go_wp2_with fail
                exact ⟨u30, u31, u32, .int .i64 i, u34, u35, u36, u37, u38, u39, u40, u41, u42, .inl ⟨by simp only [Act.put, List.setIfInBounds_toArray, List.set_cons_zero, List.set_cons_succ], by simpa using hLl, HS.out, (fun h => by first | rfl | exact P0.out (by simpa using h)), (fun h => P1.out (by simpa using h)), (fun h => by first | rfl | exact P2.out (by simpa using h)), (fun _ => rfl), (fun h => by first | rfl | exact P4.out (by simpa using h)), (fun h => by first | rfl | exact P5.out (by simpa using h)), (fun h => P6.out (by simpa using h)), (fun h => by first | rfl | exact P7.out (by simpa using h)), (fun h => by first | rfl | exact P8.out (by simpa using h)), (fun h => by first | rfl | exact P9.out (by simpa using h)), (fun h => by first | rfl | exact P10.out (by simpa using h)), (fun h => P11.out (by simpa using h)), (fun h => P12.out (by simpa using h))⟩⟩
              · simp only [List.getElem?_toArray, List.getElem?_cons_zero, List.getElem?_cons_succ, Option.some.injEq] at ho
                subst ho
                obtain rfl := p2 (hafter ⟨2, .data⟩ (by simp) rfl)
                obtain rfl := p3 (hafter ⟨3, .data⟩ (by simp) rfl)
                have P0 := Lib.hid p0
                have P1 := Lib.hid p1
                have P2 := Lib.hid p2
                have P3 := Lib.hid p3
                have P4 := Lib.hid p4
                have P5 := Lib.hid p5
                have P6 := Lib.hid p6
                have P7 := Lib.hid p7
                have P8 := Lib.hid p8
                have P9 := Lib.hid p9
                have P10 := Lib.hid p10
                have P11 := Lib.hid p11
                have P12 := Lib.hid p12
                have HS := Lib.hid hS
                clear hS hLi hafter p0 p1 p2 p3 p4 p5 p6 p7 p8 p9 p10 p11 p12
                simp only [Act.put, List.setIfInBounds_toArray, List.set_cons_zero, List.set_cons_succ]
                go_wp2_with fail
                exact ⟨u30, u31, .slice (some ⟨b0, o0, none⟩) k cap, .int .i64 i, .pointer (some ⟨b0, o0 + i * 3, none⟩), u35, u36, u37, u38, u39, u40, u41, u42, .inl ⟨by simp only [Act.put, List.setIfInBounds_toArray, List.set_cons_zero, List.set_cons_succ], by simpa using hLl, HS.out, (fun h => by first | rfl | exact P0.out (by simpa using h)), (fun h => P1.out (by simpa using h)), (fun h => by first | rfl | exact P2.out (by simpa using h)), (fun h => by first | rfl | exact P3.out (by simpa using h)), (fun _ => rfl), (fun h => by first | rfl | exact P5.out (by simpa using h)), (fun h => P6.out (by simpa using h)), (fun h => by first | rfl | exact P7.out (by simpa using h)), (fun h => by first | rfl | exact P8.out (by simpa using h)), (fun h => by first | rfl | exact P9.out (by simpa using h)), (fun h => by first | rfl | exact P10.out (by simpa using h)), (fun h => P11.out (by simpa using h)), (fun h => P12.out (by simpa using h))⟩⟩
              · simp only [List.getElem?_toArray, List.getElem?_cons_zero, List.getElem?_cons_succ, Option.some.injEq] at ho
                subst ho
                obtain rfl := p4 (hafter ⟨4, .data⟩ (by simp) rfl)
                have c0 := (hS.1.cell (p := ⟨b0, o0 + i * 3, none⟩) hlb).trans g0
                have c1 := (hS.1.cell (p := ⟨b0, o0 + i * 3 + 1, none⟩) hlb).trans g1
                have c2 := (hS.1.cell (p := ⟨b0, o0 + i * 3 + 2, none⟩) hlb).trans g2
                have P0 := Lib.hid p0
                have P1 := Lib.hid p1
                have P2 := Lib.hid p2
                have P3 := Lib.hid p3
                have P4 := Lib.hid p4
                have P5 := Lib.hid p5
                have P6 := Lib.hid p6
                have P7 := Lib.hid p7
                have P8 := Lib.hid p8
                have P9 := Lib.hid p9
                have P10 := Lib.hid p10
                have P11 := Lib.hid p11
                have P12 := Lib.hid p12
                have HS := Lib.hid hS
                clear hS hLi hafter p0 p1 p2 p3 p4 p5 p6 p7 p8 p9 p10 p11 p12
                simp only [Act.put, List.setIfInBounds_toArray, List.set_cons_zero, List.set_cons_succ]
                go_wp2_with fail
                exact ⟨u30, u31, u32, u33, .pointer (some ⟨b0, o0 + i * 3, none⟩), .agg #[.bool s', .slice ra rnn rc, .slice da dn dc], u36, u37, u38, u39, u40, u41, u42, .inl ⟨by simp only [Act.put, List.setIfInBounds_toArray, List.set_cons_zero, List.set_cons_succ], by simpa using hLl, HS.out, (fun h => by first | rfl | exact P0.out (by simpa using h)), (fun h => P1.out (by simpa using h)), (fun h => by first | rfl | exact P2.out (by simpa using h)), (fun h => by first | rfl | exact P3.out (by simpa using h)), (fun h => by first | rfl | exact P4.out (by simpa using h)), (fun _ => rfl), (fun h => P6.out (by simpa using h)), (fun h => by first | rfl | exact P7.out (by simpa using h)), (fun h => by first | rfl | exact P8.out (by simpa using h)), (fun h => by first | rfl | exact P9.out (by simpa using h)), (fun h => by first | rfl | exact P10.out (by simpa using h)), (fun h => P11.out (by simpa using h)), (fun h => P12.out (by simpa using h))⟩⟩
              · simp only [List.getElem?_toArray, List.getElem?_cons_zero, List.getElem?_cons_succ, Option.some.injEq] at ho
                subst ho
                obtain ⟨r1, c1, t1, d1, rfl, hn1, hm1⟩ := p1 (hafter ⟨1, .data⟩ (by simp) rfl)
                have HN1 := Lib.hid hn1
                have HM1 := Lib.hid hm1
                clear hn1 hm1
                obtain rfl := p5 (hafter ⟨5, .data⟩ (by simp) rfl)
                have P0 := Lib.hid p0
                have P1 := Lib.hid p1
                have P2 := Lib.hid p2
                have P3 := Lib.hid p3
                have P4 := Lib.hid p4
                have P5 := Lib.hid p5
                have P6 := Lib.hid p6
                have P7 := Lib.hid p7
                have P8 := Lib.hid p8
                have P9 := Lib.hid p9
                have P10 := Lib.hid p10
                have P11 := Lib.hid p11
                have P12 := Lib.hid p12
                have HS := Lib.hid hS
                clear hS hLi hafter p0 p1 p2 p3 p4 p5 p6 p7 p8 p9 p10 p11 p12
                simp only [Act.put, List.setIfInBounds_toArray, List.set_cons_zero, List.set_cons_succ]
                go_wp2_with fail
                refine (xrsub_any (N := N) _ _ _ _ _ _ _ _ _ _ _ _ _ _ 1 L p1 (q i) _ (by have := HS.out.2; omega) (Rt.of_norm HN1.out HM1.out 1 HZ1.out) (HR.out.below HS.out.1) (by omega) (by omega) pf HPF.out).mono ?_
                rintro e wn ⟨r, c, r2, c2, rfl, hn, hn', hb⟩
                have HN := Lib.hid hn
                have HM := Lib.hid hn'
                have Hb := Lib.hid hb
                clear hn hn' hb
                go_wp2_with fail
                exact ⟨u30, _, u32, u33, u34, .agg #[.bool s', .slice ra rnn rc, .slice da dn dc], _, u37, u38, u39, u40, u41, u42, .inl ⟨by simp only [Act.put, List.setIfInBounds_toArray, List.set_cons_zero, List.set_cons_succ], by simpa using hLl, HS.out.below Hb.out, (fun h => by first | rfl | exact P0.out (by simpa using h)), (fun h => (P1.out (by simpa using h)).below Hb.out), (fun h => by first | rfl | exact P2.out (by simpa using h)), (fun h => by first | rfl | exact P3.out (by simpa using h)), (fun h => by first | rfl | exact P4.out (by simpa using h)), (fun h => by first | rfl | exact P5.out (by simpa using h)), (fun _ => ⟨r, c, r2, c2, rfl, HN.out, HM.out⟩), (fun h => by first | rfl | exact P7.out (by simpa using h)), (fun h => by first | rfl | exact P8.out (by simpa using h)), (fun h => by first | rfl | exact P9.out (by simpa using h)), (fun h => by first | rfl | exact P10.out (by simpa using h)), (fun h => (P11.out (by simpa using h)).below Hb.out), (fun h => (P12.out (by simpa using h)).below Hb.out)⟩⟩
              · simp only [List.getElem?_toArray, List.getElem?_cons_zero, List.getElem?_cons_succ, Option.some.injEq] at ho
                subst ho
                have P0 := Lib.hid p0
                have P1 := Lib.hid p1
                have P2 := Lib.hid p2
                have P3 := Lib.hid p3
                have P4 := Lib.hid p4
                have P5 := Lib.hid p5
                have P6 := Lib.hid p6
                have P7 := Lib.hid p7
                have P8 := Lib.hid p8
                have P9 := Lib.hid p9
                have P10 := Lib.hid p10
                have P11 := Lib.hid p11
                have P12 := Lib.hid p12
                have HS := Lib.hid hS
                clear hS hLi hafter p0 p1 p2 p3 p4 p5 p6 p7 p8 p9 p10 p11 p12
                simp only [Act.put, List.setIfInBounds_toArray, List.set_cons_zero, List.set_cons_succ]
                go_wp2_with fail
                exact ⟨u30, u31, u32, u33, u34, u35, u36, .slice (some ⟨b0, o0, none⟩) k cap, u38, u39, u40, u41, u42, .inl ⟨by simp only [Act.put, List.setIfInBounds_toArray, List.set_cons_zero, List.set_cons_succ], by simpa using hLl, HS.out, (fun h => by first | rfl | exact P0.out (by simpa using h)), (fun h => P1.out (by simpa using h)), (fun h => by first | rfl | exact P2.out (by simpa using h)), (fun h => by first | rfl | exact P3.out (by simpa using h)), (fun h => by first | rfl | exact P4.out (by simpa using h)), (fun h => by first | rfl | exact P5.out (by simpa using h)), (fun h => P6.out (by simpa using h)), (fun _ => rfl), (fun h => by first | rfl | exact P8.out (by simpa using h)), (fun h => by first | rfl | exact P9.out (by simpa using h)), (fun h => by first | rfl | exact P10.out (by simpa using h)), (fun h => P11.out (by simpa using h)), (fun h => P12.out (by simpa using h))⟩⟩
              · simp only [List.getElem?_toArray, List.getElem?_cons_zero, List.getElem?_cons_succ, Option.some.injEq] at ho
                subst ho
                have P0 := Lib.hid p0
                have P1 := Lib.hid p1
                have P2 := Lib.hid p2
                have P3 := Lib.hid p3
                have P4 := Lib.hid p4
                have P5 := Lib.hid p5
                have P6 := Lib.hid p6
                have P7 := Lib.hid p7
                have P8 := Lib.hid p8
                have P9 := Lib.hid p9
                have P10 := Lib.hid p10
                have P11 := Lib.hid p11
                have P12 := Lib.hid p12
                have HS := Lib.hid hS
                clear hS hLi hafter p0 p1 p2 p3 p4 p5 p6 p7 p8 p9 p10 p11 p12
                simp only [Act.put, List.setIfInBounds_toArray, List.set_cons_zero, List.set_cons_succ]
                go_wp2_with fail
                exact ⟨u30, u31, u32, u33, u34, u35, u36, u37, .int .i64 i, u39, u40, u41, u42, .inl ⟨by simp only [Act.put, List.setIfInBounds_toArray, List.set_cons_zero, List.set_cons_succ], by simpa using hLl, HS.out, (fun h => by first | rfl | exact P0.out (by simpa using h)), (fun h => P1.out (by simpa using h)), (fun h => by first | rfl | exact P2.out (by simpa using h)), (fun h => by first | rfl | exact P3.out (by simpa using h)), (fun h => by first | rfl | exact P4.out (by simpa using h)), (fun h => by first | rfl | exact P5.out (by simpa using h)), (fun h => P6.out (by simpa using h)), (fun h => by first | rfl | exact P7.out (by simpa using h)), (fun _ => rfl), (fun h => by first | rfl | exact P9.out (by simpa using h)), (fun h => by first | rfl | exact P10.out (by simpa using h)), (fun h => P11.out (by simpa using h)), (fun h => P12.out (by simpa using h))⟩⟩
              · simp only [List.getElem?_toArray, List.getElem?_cons_zero, List.getElem?_cons_succ, Option.some.injEq] at ho
                subst ho
                obtain rfl := p7 (hafter ⟨7, .data⟩ (by simp) rfl)
                obtain rfl := p8 (hafter ⟨8, .data⟩ (by simp) rfl)
                have P0 := Lib.hid p0
                have P1 := Lib.hid p1
                have P2 := Lib.hid p2
                have P3 := Lib.hid p3
                have P4 := Lib.hid p4
                have P5 := Lib.hid p5
                have P6 := Lib.hid p6
                have P7 := Lib.hid p7
                have P8 := Lib.hid p8
                have P9 := Lib.hid p9
                have P10 := Lib.hid p10
                have P11 := Lib.hid p11
                have P12 := Lib.hid p12
                have HS := Lib.hid hS
                clear hS hLi hafter p0 p1 p2 p3 p4 p5 p6 p7 p8 p9 p10 p11 p12
                simp only [Act.put, List.setIfInBounds_toArray, List.set_cons_zero, List.set_cons_succ]
                go_wp2_with fail
                exact ⟨u30, u31, u32, u33, u34, u35, u36, .slice (some ⟨b0, o0, none⟩) k cap, .int .i64 i, .pointer (some ⟨b0, o0 + i * 3, none⟩), u40, u41, u42, .inl ⟨by simp only [Act.put, List.setIfInBounds_toArray, List.set_cons_zero, List.set_cons_succ], by simpa using hLl, HS.out, (fun h => by first | rfl | exact P0.out (by simpa using h)), (fun h => P1.out (by simpa using h)), (fun h => by first | rfl | exact P2.out (by simpa using h)), (fun h => by first | rfl | exact P3.out (by simpa using h)), (fun h => by first | rfl | exact P4.out (by simpa using h)), (fun h => by first | rfl | exact P5.out (by simpa using h)), (fun h => P6.out (by simpa using h)), (fun h => by first | rfl | exact P7.out (by simpa using h)), (fun h => by first | rfl | exact P8.out (by simpa using h)), (fun _ => rfl), (fun h => by first | rfl | exact P10.out (by simpa using h)), (fun h => P11.out (by simpa using h)), (fun h => P12.out (by simpa using h))⟩⟩
              · simp only [List.getElem?_toArray, List.getElem?_cons_zero, List.getElem?_cons_succ, Option.some.injEq] at ho
                subst ho
                obtain rfl := p9 (hafter ⟨9, .data⟩ (by simp) rfl)
                have c0 := (hS.1.cell (p := ⟨b0, o0 + i * 3, none⟩) hlb).trans g0
                have c1 := (hS.1.cell (p := ⟨b0, o0 + i * 3 + 1, none⟩) hlb).trans g1
                have c2 := (hS.1.cell (p := ⟨b0, o0 + i * 3 + 2, none⟩) hlb).trans g2
                have P0 := Lib.hid p0
                have P1 := Lib.hid p1
                have P2 := Lib.hid p2
                have P3 := Lib.hid p3
                have P4 := Lib.hid p4
                have P5 := Lib.hid p5
                have P6 := Lib.hid p6
                have P7 := Lib.hid p7
                have P8 := Lib.hid p8
                have P9 := Lib.hid p9
                have P10 := Lib.hid p10
                have P11 := Lib.hid p11
                have P12 := Lib.hid p12
                have HS := Lib.hid hS
                clear hS hLi hafter p0 p1 p2 p3 p4 p5 p6 p7 p8 p9 p10 p11 p12
                simp only [Act.put, List.setIfInBounds_toArray, List.set_cons_zero, List.set_cons_succ]
                go_wp2_with fail
                exact ⟨u30, u31, u32, u33, u34, u35, u36, u37, u38, .pointer (some ⟨b0, o0 + i * 3, none⟩), .agg #[.bool s', .slice ra rnn rc, .slice da dn dc], u41, u42, .inl ⟨by simp only [Act.put, List.setIfInBounds_toArray, List.set_cons_zero, List.set_cons_succ], by simpa using hLl, HS.out, (fun h => by first | rfl | exact P0.out (by simpa using h)), (fun h => P1.out (by simpa using h)), (fun h => by first | rfl | exact P2.out (by simpa using h)), (fun h => by first | rfl | exact P3.out (by simpa using h)), (fun h => by first | rfl | exact P4.out (by simpa using h)), (fun h => by first | rfl | exact P5.out (by simpa using h)), (fun h => P6.out (by simpa using h)), (fun h => by first | rfl | exact P7.out (by simpa using h)), (fun h => by first | rfl | exact P8.out (by simpa using h)), (fun h => by first | rfl | exact P9.out (by simpa using h)), (fun _ => rfl), (fun h => P11.out (by simpa using h)), (fun h => P12.out (by simpa using h))⟩⟩
              · simp only [List.getElem?_toArray, List.getElem?_cons_zero, List.getElem?_cons_succ, Option.some.injEq] at ho
                subst ho
                obtain ⟨r6, c6, t6, d6, rfl, hn6, hm6⟩ := p6 (hafter ⟨6, .data⟩ (by simp) rfl)
                have HN6 := Lib.hid hn6
                have HM6 := Lib.hid hm6
                clear hn6 hm6
                obtain rfl := p10 (hafter ⟨10, .data⟩ (by simp) rfl)
                have P0 := Lib.hid p0
                have P1 := Lib.hid p1
                have P2 := Lib.hid p2
                have P3 := Lib.hid p3
                have P4 := Lib.hid p4
                have P5 := Lib.hid p5
                have P6 := Lib.hid p6
                have P7 := Lib.hid p7
                have P8 := Lib.hid p8
                have P9 := Lib.hid p9
                have P10 := Lib.hid p10
                have P11 := Lib.hid p11
                have P12 := Lib.hid p12
                have HS := Lib.hid hS
                clear hS hLi hafter p0 p1 p2 p3 p4 p5 p6 p7 p8 p9 p10 p11 p12
                simp only [Act.put, List.setIfInBounds_toArray, List.set_cons_zero, List.set_cons_succ]
                go_wp2_with fail
                exact ⟨u30, u31, u32, u33, u34, u35, _, u37, u38, u39, .agg #[.bool s', .slice ra rnn rc, .slice da dn dc], _, u42, .inl ⟨by simp only [Act.put, List.setIfInBounds_toArray, List.set_cons_zero, List.set_cons_succ], by simpa using hLl, HS.out.below (bel1 wq (.cells #[.bool (decide ((pf).num < 0)), .slice r6 (nlen (pf).num.natAbs) c6, .slice t6 (nlen (pf).den) d6, .bool s', .slice ra rnn rc, .slice da dn dc] 28)), (fun h => by first | rfl | exact P0.out (by simpa using h)), (fun h => (P1.out (by simpa using h)).below (bel1 wq (.cells #[.bool (decide ((pf).num < 0)), .slice r6 (nlen (pf).num.natAbs) c6, .slice t6 (nlen (pf).den) d6, .bool s', .slice ra rnn rc, .slice da dn dc] 28))), (fun h => by first | rfl | exact P2.out (by simpa using h)), (fun h => by first | rfl | exact P3.out (by simpa using h)), (fun h => by first | rfl | exact P4.out (by simpa using h)), (fun h => by first | rfl | exact P5.out (by simpa using h)), (fun h => (P6.out (by simpa using h)).below (bel1 wq (.cells #[.bool (decide ((pf).num < 0)), .slice r6 (nlen (pf).num.natAbs) c6, .slice t6 (nlen (pf).den) d6, .bool s', .slice ra rnn rc, .slice da dn dc] 28))), (fun h => by first | rfl | exact P7.out (by simpa using h)), (fun h => by first | rfl | exact P8.out (by simpa using h)), (fun h => by first | rfl | exact P9.out (by simpa using h)), (fun h => by first | rfl | exact P10.out (by simpa using h)), (fun _ => ⟨wq.heap.size, rfl, rs_two (Rt.of_norm HN6.out HM6.out (L + 2) HZF.out) ((HR.out.below HS.out.1).mono (by omega))⟩), (fun h => (P12.out (by simpa using h)).below (bel1 wq (.cells #[.bool (decide ((pf).num < 0)), .slice r6 (nlen (pf).num.natAbs) c6, .slice t6 (nlen (pf).den) d6, .bool s', .slice ra rnn rc, .slice da dn dc] 28)))⟩⟩
              · simp only [List.getElem?_toArray, List.getElem?_cons_zero, List.getElem?_cons_succ, Option.some.injEq] at ho
                subst ho
                obtain rfl := p0 (hafter ⟨0, .data⟩ (by simp) rfl)
                obtain ⟨gt, rfl, ht11⟩ := p11 (hafter ⟨11, .data⟩ (by simp) rfl)
                have HTW := Lib.hid ht11
                clear ht11
                have P0 := Lib.hid p0
                have P1 := Lib.hid p1
                have P2 := Lib.hid p2
                have P3 := Lib.hid p3
                have P4 := Lib.hid p4
                have P5 := Lib.hid p5
                have P6 := Lib.hid p6
                have P7 := Lib.hid p7
                have P8 := Lib.hid p8
                have P9 := Lib.hid p9
                have P10 := Lib.hid p10
                have P11 := Lib.hid p11
                have P12 := Lib.hid p12
                have HS := Lib.hid hS
                clear hS hLi hafter p0 p1 p2 p3 p4 p5 p6 p7 p8 p9 p10 p11 p12
                simp only [Act.put, List.setIfInBounds_toArray, List.set_cons_zero, List.set_cons_succ]
                go_wp2_with fail
                refine (xprod_any (N := N) _ _ _ _ _ _ (tri q i) (two pf (q i)) 2097152 (L + 2) _ (by have := HS.out.2; omega) ((HO.out.below HS.out.1).rs 2097152 HZT.out) HTW.out (by omega) (by omega) (by omega) (by omega) (i + 1 + 1) (by omega) (by omega) (tri q (i + 1)) HTC.out).mono ?_
                rintro e wn ⟨g, rfl, hg, hn, hb⟩
                have HN := Lib.hid hn
                have Hb := Lib.hid hb
                clear hn hb
                go_wp2_with fail
                exact ⟨.slice ao (i + 1) co, u31, u32, u33, u34, u35, u36, u37, u38, u39, u40, _, _, .inl ⟨by simp only [Act.put, List.setIfInBounds_toArray, List.set_cons_zero, List.set_cons_succ], by simpa using hLl, HS.out.below Hb.out, (fun h => by first | rfl | exact P0.out (by simpa using h)), (fun h => (P1.out (by simpa using h)).below Hb.out), (fun h => by first | rfl | exact P2.out (by simpa using h)), (fun h => by first | rfl | exact P3.out (by simpa using h)), (fun h => by first | rfl | exact P4.out (by simpa using h)), (fun h => by first | rfl | exact P5.out (by simpa using h)), (fun h => (P6.out (by simpa using h)).below Hb.out), (fun h => by first | rfl | exact P7.out (by simpa using h)), (fun h => by first | rfl | exact P8.out (by simpa using h)), (fun h => by first | rfl | exact P9.out (by simpa using h)), (fun h => by first | rfl | exact P10.out (by simpa using h)), (fun h => (P11.out (by simpa using h)).below Hb.out), (fun _ => ⟨_, _, rfl, HN.out.rn (by unfold maxLen; omega)⟩)⟩⟩
              · simp only [List.getElem?_toArray, List.getElem?_cons_zero, List.getElem?_cons_succ, Option.some.injEq] at ho
                subst ho
                have hall : ∀ j, j < 13 → Ls j = true := by
                  intro j hj
                  obtain rfl | rfl | rfl | rfl | rfl | rfl | rfl | rfl | rfl | rfl | rfl | rfl | rfl : j = 0 ∨ j = 1 ∨ j = 2 ∨ j = 3 ∨ j = 4 ∨ j = 5 ∨ j = 6 ∨ j = 7 ∨ j = 8 ∨ j = 9 ∨ j = 10 ∨ j = 11 ∨ j = 12 := by omega
                  all_goals first | (refine hafter ⟨_, .phase⟩ ?_ rfl; simp; done) | (refine hafter ⟨_, .data⟩ ?_ rfl; simp; done)
                have HALL := Lib.hid hall
                clear hall
                obtain ⟨an, cn, rfl, hr12⟩ := p12 (hafter ⟨12, .data⟩ (by simp) rfl)
                have HRN := Lib.hid hr12
                clear hr12
                have P0 := Lib.hid p0
                have P1 := Lib.hid p1
                have P2 := Lib.hid p2
                have P3 := Lib.hid p3
                have P4 := Lib.hid p4
                have P5 := Lib.hid p5
                have P6 := Lib.hid p6
                have P7 := Lib.hid p7
                have P8 := Lib.hid p8
                have P9 := Lib.hid p9
                have P10 := Lib.hid p10
                have P11 := Lib.hid p11
                have P12 := Lib.hid p12
                have HS := Lib.hid hS
                clear hS hLi hafter p0 p1 p2 p3 p4 p5 p6 p7 p8 p9 p10 p11 p12
                simp only [Act.put, List.setIfInBounds_toArray, List.set_cons_zero, List.set_cons_succ]
                go_wp2_with fail
                exact ⟨u30, u31, u32, u33, u34, u35, u36, u37, u38, u39, u40, u41, .slice an (i + 1 + 1) cn, .inr ⟨.slice an (i + 1 + 1) cn, by simp only [Act.put, List.setIfInBounds_toArray, List.set_cons_zero, List.set_cons_succ], by simp, fun j hj => by simp [HALL.out j hj], ⟨⟨_, _, rfl, HRN.out⟩, HS.out⟩⟩⟩
            · exfalso
              have hi : i < 14 := (Array.getElem?_eq_some_iff.1 ho).1
              rcases Nat.lt_or_ge i 13 with h | h
              · rw [hall i h] at hLi; cases hLi
              · obtain rfl : i = 13 := by omega
                rw [h10] at hLi; cases hLi
          · intro Ls a0 wq hall hJ
            obtain ⟨u30, u31, u32, u33, u34, u35, u36, u37, u38, u39, u40, u41, u42, ⟨rfl, h10, _⟩ | ⟨v, rfl, _, _, hcut⟩⟩ := hJ
            · rw [hall 13 (by decide)] at h10; cases h10
            · obtain ⟨⟨an, cn, rfl, hrn⟩, hs⟩ := hcut
              have HRN := Lib.hid hrn
              have HSS := Lib.hid hs
              clear hrn hs
              simp only [Act.put, List.setIfInBounds_toArray, List.set_cons_zero, List.set_cons_succ]
              go_wp2_with fail
              go_roundw
              case rel => exact ⟨i + 1, _, _, by omega, by go_num, rfl, HRN.out, HB.out.trans (HSS.out.1.mono hs0), Nat.le_trans hs0 HSS.out.2⟩
              case measure => simp [intOf]; omega
        · obtain rfl : i = k := by omega
          go_wp2_with fail
          go_ret2
          exact ⟨_, _, rfl, HO.out, HB.out⟩

end Go.Proofs.YtbjgnpgachdlaaaGreatDoor
