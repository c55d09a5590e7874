/- ClassicalParts returns true for every input; no condition. -/
import Derived.Test.YtbjgnpgachdlaaaClsG
import Derived.Test.YtbjgnpgachdlaaaClsH
import Derived.Test.YtbjgnpgachdlaaaFr
namespace Go.Proofs.Ytbjgnpgachdlaaa
open Go.RowKit Go.ChangeShapes Go.WideShapes Go.ChangeAt Go.Deep

set_option maxRecDepth 100000 in
set_option maxHeartbeats 4000000 in
theorem parts_out {N : Nat} (a : Option Addr) (n cap : Nat) (ra : Nat → Option Addr) (rn rc : Nat → Nat) (z : Nat → Nat → Int) (w : World) (_hN : N ≤ w.heap.size) (h : Rw w a n cap ra rn rc z) (hbad : n = 0 ∨ 12 < n ∨ 5 < rn 0) :
    Calls Try.prog 3 #[.slice a n cap] w fun e w' => e = .returned (.bool true) ∧ Below w.heap.size w w' := by
  have HR := Lib.hid h
  have hcapm : cap ≤ 9223372036854775807 := by have := h.2.1; unfold maxLen at this; omega
  have hncap := h.1
  by_cases n0 : 0 < n
  · obtain ⟨bb, off, ea, hrows⟩ := h.2.2 n0
    have hcell0 := (hrows 0 n0).1
    rw [Nat.add_zero] at hcell0
    have hmx := (hrows 0 n0).2.2.1
    have hle := (hrows 0 n0).2.1
    unfold maxLen at hmx
    have hn0i : (0 : Int) < (n : Int) := by omega
    have hnz : ((n : Int) == 0) = false := by simp; omega
    subst ea
    clear h hrows
    by_cases h12 : 12 < n
    · clear hbad
      go_enter Try.func3, Try.ntmps3
      go_wp2_with fail
      refine (much_any _ _ _ ra rn rc z _ HR.out).mono ?_
      rintro e w' ⟨b, rfl, rfl⟩
      cases b
      case true =>
        go_wp2_with fail
        go_ret
        exact ⟨rfl, Below.refl _ _⟩
      case false =>
        go_wp2_with fail
        go_ret
        exact ⟨rfl, Below.refl _ _⟩
    · have h5 : 5 < rn 0 := by omega
      clear hbad
      go_enter Try.func3, Try.ntmps3
      go_wp2_with fail
      refine (much_any _ _ _ ra rn rc z _ HR.out).mono ?_
      rintro e w' ⟨b, rfl, rfl⟩
      cases b
      case true =>
        go_wp2_with fail
        go_ret
        exact ⟨rfl, Below.refl _ _⟩
      case false =>
        go_wp2_with fail
        go_ret
        exact ⟨rfl, Below.refl _ _⟩
  · obtain rfl : n = 0 := by omega
    clear h hbad
    go_enter Try.func3, Try.ntmps3
    go_wp2_with fail
    refine (much_any _ _ _ ra rn rc z _ HR.out).mono ?_
    rintro e w' ⟨b, rfl, rfl⟩
    cases b
    case true =>
      go_wp2_with fail
      go_ret
      exact ⟨rfl, Below.refl _ _⟩
    case false =>
      go_wp2_with fail
      go_ret
      exact ⟨rfl, Below.refl _ _⟩

set_option maxRecDepth 100000 in
set_option maxHeartbeats 4000000 in
theorem parts_no {N : Nat} (a : Option Addr) (n cap : Nat) (ra : Nat → Option Addr) (rn rc : Nat → Nat) (z : Nat → Nat → Int) (w : World) (hN : N ≤ w.heap.size) (h : Rw w a n cap ra rn rc z) (n0 : 0 < n) (n12 : n ≤ 12) (h5 : rn 0 ≤ 5) (p1 p2 : Rat) (c : Int) (hrel : ∀ w', N ≤ w'.heap.size → Rw w' a n cap ra rn rc z → Calls Try.prog 14 #[.slice a n cap] w' (RelPost N w' p1 p2 c)) (hc : c ≠ 0) :
    Calls Try.prog 3 #[.slice a n cap] w fun e w' => e = .returned (.bool true) ∧ Below w.heap.size w w' := by
  have HR := Lib.hid h
  have HREL := Lib.hid hrel
  have hcb : (c != 0) = true := by simpa using hc
  obtain ⟨bb, off, ea, hrows⟩ := h.2.2 n0
  have hcell0 := (hrows 0 n0).1
  rw [Nat.add_zero] at hcell0
  have hn0i : (0 : Int) < (n : Int) := by omega
  have hcapm : cap ≤ 9223372036854775807 := by have := h.2.1; unfold maxLen at this; omega
  have hncap := h.1
  have HRows := Lib.hid hrows
  have hnz : ((n : Int) == 0) = false := by simp; omega
  have h12f : decide (12 < (n : Int)) = false := by simp; omega
  subst ea
  have h5f : decide (5 < (rn 0 : Int)) = false := by simp; omega
  have hmx := (hrows 0 n0).2.2.1
  have hle := (hrows 0 n0).2.1
  unfold maxLen at hmx
  clear h hrows hrel HRows
  have hN0 := hN
  have hs0 : w.heap.size ≤ w.heap.size := Nat.le_refl _
  have HB := Lib.hid (Below.refl w.heap.size w)
  go_enter Try.func3, Try.ntmps3
  go_wp2_with fail
  refine (much_any _ _ _ ra rn rc z _ HR.out).mono ?_
  rintro e w' ⟨b, rfl, rfl⟩
  cases b
  case true =>
    go_wp2_with fail
    go_ret
    exact ⟨rfl, Below.refl _ _⟩
  case false =>
    go_wp2_with fail
    refine (alpha_any (N := N) _ _ _ ra rn rc z _ hN (HR.out.below HB.out) p1 p2 c HREL.out).mono ?_
    rintro e wa ⟨rx, cx, rx2, cx2, rfl, hn, hn', hb⟩
    have hN_wa : N ≤ wa.heap.size := Nat.le_trans hN hb.size
    have hs_wa : w.heap.size ≤ wa.heap.size := hb.size
    have hs0_wa : w.heap.size ≤ wa.heap.size := Nat.le_trans hs0 hb.size
    have HB_wa := Lib.hid (HB.out.trans (hb.mono hs0))
    clear hb
    clear HB hN hs0
    have hN := hN_wa
    have HB := HB_wa
    have hs0 := hs0_wa
    clear hN_wa HB_wa hs0_wa
    have HP1 := Lib.hid hn
    clear hn
    have HQ1 := Lib.hid hn'
    clear hn'
    go_wp2_with fail
    refine calls_name fun W1 hW => ?_
    have hN_W1 : N ≤ W1.heap.size := by rw [← hW]; (first | omega | (simp; done) | (simp; omega))
    have hs_W1 : wa.heap.size ≤ W1.heap.size := by rw [← hW]; (first | omega | (simp; done) | (simp; omega))
    have hs0_W1 : w.heap.size ≤ W1.heap.size := by rw [← hW]; (first | omega | (simp; done) | (simp; omega))
    have HK_W1 := Lib.hid (show Kp N wa W1 by rw [← hW]; (repeat' (first | with_reducible exact Kp.refl _ _ | with_reducible apply Kp.alloc | with_reducible apply Kp.drew | (with_reducible refine Kp.put ?_ ?_ ?_ _; rotate_left; (focus (first | omega | (simp; done) | (simp; omega))); rotate_left) | (with_reducible refine Bn.new _ _ _ _ ?_ ?_; (focus (first | omega | (simp; done) | (simp; omega))); decide) | with_reducible apply Bn.alloc | with_reducible apply Bn.drew | with_reducible apply Bn.set)))
    have HP1_W1 := Lib.hid (HP1.out.keep HK_W1.out)
    have HQ1_W1 := Lib.hid (HQ1.out.keep HK_W1.out)
    have HB_W1 := Lib.hid (show Below w.heap.size w W1 by rw [← hW]; (repeat' (first | with_reducible exact Below.refl _ _ | with_reducible exact HB.out | (with_reducible refine Below.alloc ?_ ?_ _; rotate_left; (focus (first | omega | (simp; done) | (simp; omega)))) | with_reducible apply Below.drew | (with_reducible refine Below.setCell ?_ ?_ _; rotate_left; (focus (first | omega | (simp; done) | (simp; omega)))))))
    clear hW HK_W1
    clear HP1 HQ1 HB hN hs0
    have hN := hN_W1
    have HB := HB_W1
    have hs0 := hs0_W1
    have HP1 := HP1_W1
    have HQ1 := HQ1_W1
    clear hN_W1 HB_W1 hs0_W1 HP1_W1 HQ1_W1
    refine (error_no (N := N) _ _ _ ra rn rc z _ hN (HR.out.below HB.out) p1 p2 c HREL.out hc 0 rfl).mono ?_
    rintro e wb ⟨ry, cy, ry2, cy2, rfl, hn, hn', hb⟩
    have hN_wb : N ≤ wb.heap.size := Nat.le_trans hN hb.size
    have hs_wb : W1.heap.size ≤ wb.heap.size := hb.size
    have hs0_wb : w.heap.size ≤ wb.heap.size := Nat.le_trans hs0 hb.size
    have HP1_wb := Lib.hid (HP1.out.below hb)
    have HQ1_wb := Lib.hid (HQ1.out.below hb)
    have HB_wb := Lib.hid (HB.out.trans (hb.mono hs0))
    clear hb
    clear HP1 HQ1 HB hN hs0
    have hN := hN_wb
    have HB := HB_wb
    have hs0 := hs0_wb
    have HP1 := HP1_wb
    have HQ1 := HQ1_wb
    clear hN_wb HB_wb hs0_wb HP1_wb HQ1_wb
    have HP2 := Lib.hid hn
    clear hn
    have HQ2 := Lib.hid hn'
    clear hn'
    go_wp2_with fail
    go_ret
    refine ⟨rfl, ?_⟩
    (repeat' (first | with_reducible exact Below.refl _ _ | with_reducible exact HB.out | (with_reducible refine Below.alloc ?_ ?_ _; rotate_left; (focus (first | omega | (simp; done) | (simp; omega)))) | with_reducible apply Below.drew | (with_reducible refine Below.setCell ?_ ?_ _; rotate_left; (focus (first | omega | (simp; done) | (simp; omega))))))

/-- what the loops keep: the boxes of alpha, all and own -/
def PInv (N : Nat) (w : World) (g : Nat) (al qa qo : Rat) (wr : World) : Prop := NBox N wr g al ∧ QBox N wr (g + 1) qa 300 ∧ QBox N wr (g + 1 + 1) qo 300 ∧ Below w.heap.size w wr
theorem Rt.zero (N : Nat) (w : World) : Rt N w false none 0 0 none 0 0 0 300 := ⟨by omega, by omega, by omega, 0, 0, Nt.zero _ _, Nt.zero _ _, by rw [Rat.mkRat_zero]⟩
theorem ownQ_next (z : Nat → Nat → Int) (n i j : Nat) (h : i ≠ j) : ownQ z n i (j + 1) = ownQ z n i j := by
  unfold ownQ
  by_cases h1 : i < j
  · rw [if_pos h1, if_pos (by omega)]
  · rw [if_neg h1, if_neg (by omega)]
theorem ownQ_self (z : Nat → Nat → Int) (n i : Nat) : ownQ z n i (i + 1) = ownQ z n i i + cov (colZ z i) (colZ z i) n := by
  unfold ownQ
  rw [if_pos (by omega), if_neg (by omega)]; rfl

set_option maxRecDepth 100000 in
set_option maxHeartbeats 16000000 in
theorem parts_ok {N : Nat} (a : Option Addr) (n cap : Nat) (ra : Nat → Option Addr) (rn rc : Nat → Nat) (z : Nat → Nat → Int) (w : World) (hN : N ≤ w.heap.size) (h : Rw w a n cap ra rn rc z) (n0 : 0 < n) (n12 : n ≤ 12) (K : Nat) (hK : rn 0 = K) (k5 : K ≤ 5) (hc : rowsC n rn z = 0) (v : Rat) (hv : cov (totZ z K) (totZ z K) n = v) (hv0 : v ≠ 0) :
    Calls Try.prog 3 #[.slice a n cap] w fun e w' => e = .returned (.bool true) ∧ Below w.heap.size w w' := by
  obtain ⟨n200, _, hrn, k2, _, hin⟩ := rowsC_zero hc
  rw [hK] at hrn k2 hin
  obtain ⟨p2, hp2⟩ : ∃ p2 : Rat, ((K : Int) : Rat) / (((K : Int) - 1 : Int) : Rat) * (((1 : Int) : Rat) / ((1 : Int) : Rat) - itm z n K / v) = p2 := ⟨_, rfl⟩
  have HREL := Lib.hid (show ∀ w', N ≤ w'.heap.size → Rw w' a n cap ra rn rc z → Calls Try.prog 14 #[.slice a n cap] w' (RelPost N w' v p2 0) from fun w' hN' h' => rel_ok a n cap ra rn rc z w' hN' h' hc K hK v p2 0 v hv (.inr ⟨hv0, rfl, hp2.symm, rfl⟩))
  obtain ⟨po, hpo⟩ : ∃ p : Rat, ((1 : Int) : Rat) / ((1 : Int) : Rat) = p := ⟨_, rfl⟩
  obtain ⟨pf, hpf⟩ : ∃ p : Rat, ((K : Int) : Rat) / (((K : Int) - 1 : Int) : Rat) = p := ⟨_, rfl⟩
  obtain ⟨q9, hq9⟩ : ∃ p : Rat, itm z n K = p := ⟨_, rfl⟩
  obtain ⟨q8, hq8⟩ : ∃ p : Rat, allO z n K K = p := ⟨_, rfl⟩
  have e8 : q8 = v := by rw [← hq8, allO_eq, hv]
  obtain ⟨sh, hsh⟩ : ∃ p : Rat, q9 / q8 = p := ⟨_, rfl⟩
  obtain ⟨pd, hpd⟩ : ∃ p : Rat, po - sh = p := ⟨_, rfl⟩
  obtain ⟨pe, hpe⟩ : ∃ p : Rat, po - p2 = p := ⟨_, rfl⟩
  obtain ⟨pm, hpm⟩ : ∃ p : Rat, q8 * pe = p := ⟨_, rfl⟩
  have hpo1 : po = 1 := by rw [← hpo]; (first | grind | decide | (simp; done))
  have z9 : rsz q9 ≤ 41 := by rw [← hq9]; have := rsz_itm hin (by omega) K (by omega); omega
  have zv : rsz v ≤ 7 := by rw [← hv]; exact rsz_cov (tot_in hin (by omega)) (tot_in hin (by omega)) (by omega)
  have zs : rsz sh ≤ 48 := by rw [← hsh, e8]; have := rsz_quot q9 v; omega
  have zo : rsz po ≤ 2 := rsz_div 1 1 po hpo (by decide) (by decide)
  have zf : rsz pf ≤ 2 := rsz_div (K : Int) (K - 1) pf (by rw [← hpf, show ((K - 1 : Nat) : Int) = (K : Int) - 1 by omega]) (by omega) (by omega)
  have zd : rsz pd ≤ 51 := by rw [← hpd]; have := rsz_sub po sh; omega
  have ea : pf * pd = p2 := by rw [← hp2, hpo, hpf, hq9, ← hpd, ← hsh, e8]
  have za : rsz p2 ≤ 53 := by rw [← ea]; have := rsz_mul pf pd; omega
  have ze : rsz pe ≤ 56 := by rw [← hpe]; have := rsz_sub po p2; omega
  have HV8 := Lib.hid hq8
  have HV9 := Lib.hid hq9
  have HSh := Lib.hid hsh
  have HOk := Lib.hid (show decide (q8 ≠ 0) = true by rw [e8]; exact decide_eq_true hv0)
  have HPo := Lib.hid ((mk_div 1 1).trans hpo)
  have HPf := Lib.hid ((mk_div (K : Int) ((K : Int) - 1)).trans hpf)
  have HKd := Lib.hid (show decide (0 < ((K : Int) - 1).natAbs) = true by rw [decide_eq_true_eq]; omega)
  have HPm := Lib.hid (show v * (1 - p2) = pm by rw [← hpm, ← hpe, e8, hpo1])
  have HPn := Lib.hid hpm
  have HPd := Lib.hid hpd
  have HPe := Lib.hid hpe
  have HPa := Lib.hid ea
  have HSv := Lib.hid (show rsz v ≤ 68719476735 by omega)
  have HSp := Lib.hid (show rsz p2 ≤ 34359738368 by omega)
  have HSo := Lib.hid (show rsz po ≤ 300 by omega)
  have HSs := Lib.hid (show rsz sh ≤ 300 by omega)
  have HSf := Lib.hid (show rsz pf ≤ 300 by omega)
  have HSd := Lib.hid (show rsz pd ≤ 700 by omega)
  have HSa := Lib.hid (show rsz p2 ≤ 1100 by omega)
  have HSe := Lib.hid (show rsz pe ≤ 1500 by omega)
  have HIn := Lib.hid hin
  have HRn := Lib.hid hrn
  have HCol := Lib.hid (show ∀ i, i < K → InR (colZ z i) n from fun i hi p hp => hin p hp i hi)
  have HR := Lib.hid h
  obtain ⟨bb, off, ea, hrows⟩ := h.2.2 n0
  have hcell0 := (hrows 0 n0).1
  rw [Nat.add_zero] at hcell0
  have hn0i : (0 : Int) < (n : Int) := by omega
  have hcapm : cap ≤ 9223372036854775807 := by have := h.2.1; unfold maxLen at this; omega
  have hncap := h.1
  have HRows := Lib.hid hrows
  have hnz : ((n : Int) == 0) = false := by simp; omega
  have h12f : decide (12 < (n : Int)) = false := by simp; omega
  subst ea
  have h5f : decide (5 < (K : Int)) = false := by simp; omega
  rw [hK] at hcell0
  clear h hrows hp2 hpo hpf hq9 hq8 e8 hsh hpd hpe hpm hpo1 z9 zv zs zo zf zd ea za ze hin hrn hc hv hv0
  have hN0 := hN
  have hs0 : w.heap.size ≤ w.heap.size := Nat.le_refl _
  have HB := Lib.hid (Below.refl w.heap.size w)
  go_enter Try.func3, Try.ntmps3
  go_wp2_with fail
  refine (much_any _ _ _ ra rn rc z _ HR.out).mono ?_
  rintro e w' ⟨b, rfl, rfl⟩
  cases b
  case true =>
    go_wp2_with fail
    go_ret
    exact ⟨rfl, Below.refl _ _⟩
  case false =>
    go_wp2_with fail
    refine (alpha_any (N := N) _ _ _ ra rn rc z _ hN (HR.out.below HB.out) v p2 0 HREL.out).mono ?_
    rintro e wa ⟨rx, cx, rx2, cx2, rfl, hn, hn', hb⟩
    have hN_wa : N ≤ wa.heap.size := Nat.le_trans hN hb.size
    have hs_wa : w.heap.size ≤ wa.heap.size := hb.size
    have hs0_wa : w.heap.size ≤ wa.heap.size := Nat.le_trans hs0 hb.size
    have HB_wa := Lib.hid (HB.out.trans (hb.mono hs0))
    clear hb
    clear HB hN hs0
    have hN := hN_wa
    have HB := HB_wa
    have hs0 := hs0_wa
    clear hN_wa HB_wa hs0_wa
    have HX1 := Lib.hid hn
    clear hn
    have HX2 := Lib.hid hn'
    clear hn'
    have hcell1 := cell_mono hcell0 HB.out
    have hmx := (HRows.out 0 n0).2.2.1
    have hle := (HRows.out 0 n0).2.1
    unfold maxLen at hmx
    clear hcell0
    have hbb : bb < wa.heap.size := World.block_lt_of_cell? wa _ hcell1
    go_wp2_with fail
    obtain ⟨g, hg⟩ : ∃ g, wa.heap.size = g := ⟨_, rfl⟩
    have HST := Lib.hid (show PInv N w g p2 0 0 (((wa.alloc (.cells #[.bool (decide ((p2).num < 0)), .slice rx (nlen (p2).num.natAbs) cx, .slice rx2 (nlen (p2).den) cx2] 30)).alloc (.cells #[.bool false, .slice none 0 0, .slice none 0 0] 30)).alloc (.cells #[.bool false, .slice none 0 0, .slice none 0 0] 30)) by
      subst hg
      refine ⟨⟨_, _, _, _, ⟨by first | omega | (simp; done) | (simp; omega), by (repeat' (first | with_reducible exact Kp.refl _ _ | with_reducible apply Kp.alloc | with_reducible apply Kp.drew | (with_reducible refine Kp.put ?_ ?_ ?_ _; rotate_left; (focus (first | omega | (simp; done) | (simp; omega))); rotate_left) | (with_reducible refine Bn.new _ _ _ _ ?_ ?_; (focus (first | omega | (simp; done) | (simp; omega))); decide) | with_reducible apply Bn.alloc | with_reducible apply Bn.drew | with_reducible apply Bn.set)), fun o => by first | (go_simp; done) | (simp; done) | (simp [go_sem]; done) | (simp [go_sem]; done), by first | with_reducible assumption | (go_simp; done) | (simp; done) | (simp [go_sem]; done) | (simp [go_sem]; done), by first | with_reducible assumption | (go_simp; done) | (simp; done) | (simp [go_sem]; done) | (simp [go_sem]; done), by first | with_reducible assumption | (go_simp; done) | (simp; done) | (simp [go_sem]; done) | (simp [go_sem]; done)⟩, HX1.out.keep ?_, HX2.out.keep ?_⟩, ⟨_, _, _, _, _, _, _, ⟨by first | omega | (simp; done) | (simp; omega), by (repeat' (first | with_reducible exact Kp.refl _ _ | with_reducible apply Kp.alloc | with_reducible apply Kp.drew | (with_reducible refine Kp.put ?_ ?_ ?_ _; rotate_left; (focus (first | omega | (simp; done) | (simp; omega))); rotate_left) | (with_reducible refine Bn.new _ _ _ _ ?_ ?_; (focus (first | omega | (simp; done) | (simp; omega))); decide) | with_reducible apply Bn.alloc | with_reducible apply Bn.drew | with_reducible apply Bn.set)), fun o => by first | (go_simp; done) | (simp; done) | (simp [go_sem]; done) | (simp [go_sem]; done), by first | with_reducible assumption | (go_simp; done) | (simp; done) | (simp [go_sem]; done) | (simp [go_sem]; done), by first | with_reducible assumption | (go_simp; done) | (simp; done) | (simp [go_sem]; done) | (simp [go_sem]; done), by first | with_reducible assumption | (go_simp; done) | (simp; done) | (simp [go_sem]; done) | (simp [go_sem]; done)⟩, Rt.zero _ _⟩, ⟨_, _, _, _, _, _, _, ⟨by first | omega | (simp; done) | (simp; omega), by (repeat' (first | with_reducible exact Kp.refl _ _ | with_reducible apply Kp.alloc | with_reducible apply Kp.drew | (with_reducible refine Kp.put ?_ ?_ ?_ _; rotate_left; (focus (first | omega | (simp; done) | (simp; omega))); rotate_left) | (with_reducible refine Bn.new _ _ _ _ ?_ ?_; (focus (first | omega | (simp; done) | (simp; omega))); decide) | with_reducible apply Bn.alloc | with_reducible apply Bn.drew | with_reducible apply Bn.set)), fun o => by first | (go_simp; done) | (simp; done) | (simp [go_sem]; done) | (simp [go_sem]; done), by first | with_reducible assumption | (go_simp; done) | (simp; done) | (simp [go_sem]; done) | (simp [go_sem]; done), by first | with_reducible assumption | (go_simp; done) | (simp; done) | (simp [go_sem]; done) | (simp [go_sem]; done), by first | with_reducible assumption | (go_simp; done) | (simp; done) | (simp [go_sem]; done) | (simp [go_sem]; done)⟩, Rt.zero _ _⟩, ?_⟩
      · (repeat' (first | with_reducible exact Kp.refl _ _ | with_reducible apply Kp.alloc | with_reducible apply Kp.drew | (with_reducible refine Kp.put ?_ ?_ ?_ _; rotate_left; (focus (first | omega | (simp; done) | (simp; omega))); rotate_left) | (with_reducible refine Bn.new _ _ _ _ ?_ ?_; (focus (first | omega | (simp; done) | (simp; omega))); decide) | with_reducible apply Bn.alloc | with_reducible apply Bn.drew | with_reducible apply Bn.set))
      · (repeat' (first | with_reducible exact Kp.refl _ _ | with_reducible apply Kp.alloc | with_reducible apply Kp.drew | (with_reducible refine Kp.put ?_ ?_ ?_ _; rotate_left; (focus (first | omega | (simp; done) | (simp; omega))); rotate_left) | (with_reducible refine Bn.new _ _ _ _ ?_ ?_; (focus (first | omega | (simp; done) | (simp; omega))); decide) | with_reducible apply Bn.alloc | with_reducible apply Bn.drew | with_reducible apply Bn.set))
      · (repeat' (first | with_reducible exact Below.refl _ _ | with_reducible exact HB.out | (with_reducible refine Below.alloc ?_ ?_ _; rotate_left; (focus (first | omega | (simp; done) | (simp; omega)))) | with_reducible apply Below.drew | (with_reducible refine Below.setCell ?_ ?_ _; rotate_left; (focus (first | omega | (simp; done) | (simp; omega)))))))
    have hgw : w.heap.size ≤ g := by omega
    clear HX1 HX2
    rw [hg]
    go_loopw [10] (fun i wr => ∃ k : Nat, k ≤ K ∧ i = .int .i64 k ∧ PInv N w g p2 (allO z n K k) (itm z n k) wr) (fun i _ => K - (intOf i).toNat)
    case atStart => exact ⟨0, Nat.zero_le _, rfl, HST.out⟩
    case round =>
      clear HST HB hN hs0 hg hcell1 hbb
      obtain ⟨k, hk, rfl, hinv⟩ := hrel
      by_cases hkK : k < K
      · have hinv0 := Lib.hid hinv
        clear hinv
        go_wp2_with fail
        go_loopw [11] (fun j wr => ∃ jj : Nat, jj ≤ K ∧ j = .int .i64 jj ∧ PInv N w g p2 (accQ (allO z n K k) z n k jj) (ownQ z n k jj) wr) (fun j _ => K - (intOf j).toNat)
        case atStart => exact ⟨0, Nat.zero_le _, rfl, hinv0.out⟩
        case round =>
          clear hinv0
          obtain ⟨j, hj, rfl, hinv⟩ := hrel
          by_cases hjK : j < K
          · obtain ⟨q1, hq1⟩ : ∃ q, cov (colZ z k) (colZ z j) n = q := ⟨_, rfl⟩
            obtain ⟨q8, hq8⟩ : ∃ q, accQ (allO z n K k) z n k j = q := ⟨_, rfl⟩
            obtain ⟨q9, hq9⟩ : ∃ q, ownQ z n k j = q := ⟨_, rfl⟩
            obtain ⟨q2, hq2⟩ : ∃ q, q8 + q1 = q := ⟨_, rfl⟩
            obtain ⟨q3, hq3⟩ : ∃ q, q9 + q1 = q := ⟨_, rfl⟩
            have HSZ1 := Lib.hid (show rsz q1 ≤ 7 by rw [← hq1]; exact rsz_cov (col_in HIn.out hkK) (col_in HIn.out hjK) (by omega))
            have HSZ2 := Lib.hid (show rsz q2 ≤ 300 by rw [← hq2, ← hq8, ← hq1]; have := rsz_accQ HIn.out (by omega) (allO z n K k) hkK (j + 1) (by omega); have := rsz_allO HIn.out (by omega) k5 k (by omega); rw [accQ] at *; omega)
            have HSZ3 := Lib.hid (show rsz q3 ≤ 300 by rw [← hq3]; have := rsz_add q9 q1; have := HSZ1.out; have := rsz_ownQ HIn.out (by omega) k5 hkK j; rw [hq9] at this; omega)
            have HQE := Lib.hid (show accQ (allO z n K k) z n k (j + 1) = q2 by rw [accQ, hq8, hq1, hq2])
            rw [hq8, hq9] at hinv
            have HQ1 := Lib.hid hq1
            have HQ2 := Lib.hid hq2
            have HQ3 := Lib.hid hq3
            have HQ9 := Lib.hid hq9
            clear hq1 hq2 hq3 hq8 hq9
            obtain ⟨⟨rx, cx, rx2, cx2, hA, hx1, hx2⟩, ⟨s8, a8, n8, c8, d8, m8, e8, hE, hr8⟩, ⟨s9, a9, n9, c9, d9, m9, e9, hO, hr9⟩, hbel⟩ := hinv
            obtain ⟨hl_A, bn_A, f_A, k_A_0, k_A_1, k_A_2⟩ := hA
            have HX_A := Lib.hid bn_A
            clear bn_A
            obtain ⟨hl_E, bn_E, f_E, k_E_0, k_E_1, k_E_2⟩ := hE
            have HX_E := Lib.hid bn_E
            clear bn_E
            obtain ⟨hl_O, bn_O, f_O, k_O_0, k_O_1, k_O_2⟩ := hO
            have HX_O := Lib.hid bn_O
            clear bn_O
            have HX1 := Lib.hid hx1
            have HX2 := Lib.hid hx2
            have HR8 := Lib.hid hr8
            have HR9 := Lib.hid hr9
            have hs0 := hbel.size
            have hN : N ≤ wr.heap.size := by omega
            have HB := Lib.hid hbel
            clear hx1 hx2 hr8 hr9 hbel
            obtain ⟨i0, hi, hz0, hz1, hz2⟩ := info_parts Try.infoInt
            go_wp2_with fail
            obtain ⟨wq, rfl⟩ : ∃ wq : World, wq = wr := ⟨_, rfl⟩
            go_loopw [12, 13, 14] (fun x y i wt => ∃ p : Nat, p ≤ n ∧ i = .int .i64 p ∧ wt.ownsRow wq.heap.size 3 1 x p (ints (colZ z k) p) ∧ wt.ownsRow wq.heap.size 3 1 y p (ints (colZ z j) p) ∧ Apart x y ∧ Below wq.heap.size wq wt ∧ wq.heap.size ≤ wt.heap.size) (fun _ _ i _ => n - (intOf i).toNat)
            case atStart => exact ⟨0, Nat.zero_le _, rfl, World.ownsRow_nil _ _ _ _, World.ownsRow_nil _ _ _ _, (fun k hk => by cases hk), Below.refl _ _, Nat.le_refl _⟩
            case round =>
              obtain ⟨p, hp, rfl, hox, hoy, hap, hbt, hbz⟩ := hrel
              have HOX := Lib.hid hox
              have HOY := Lib.hid hoy
              have HAP := Lib.hid hap
              have HBT := Lib.hid hbt
              have HBW := Lib.hid (HB.out.trans (hbt.mono hs0))
              clear hox hoy hap hbt
              by_cases hpn : p < n
              · clear k_A_0 k_A_1 k_A_2 k_E_0 k_E_1 k_E_2 k_O_0 k_O_1 k_O_2 f_A f_E f_O
                obtain ⟨hc1, hrow⟩ := HRows.out p hpn
                have hrnp := HRn.out p hpn
                obtain ⟨b2, o2, e2, hc2⟩ := hrow.2.2 (by omega)
                have hmx := hrow.2.1
                have hle := hrow.1
                unfold maxLen at hmx
                rw [e2, hrnp] at hc1
                rw [hrnp] at hle
                have HC1 := Lib.hid hc1
                have HCK := Lib.hid (hc2 k (by omega))
                have HCJ := Lib.hid (hc2 j (by omega))
                have hcr := cell_mono hc1 HBW.out
                have hck := cell_mono HCK.out HBW.out
                have hne : ((K : Int) != (K : Int)) = false := by simp
                clear hc1 hc2 hrow hrnp e2
                go_wp2_with (first | (at_builtin; refine wpList_append_own_at _ rfl (.tmp 88) (.tmp 96) 24 rfl wq.heap.size 3 i0 (.int .i64 0) 1 8 Try.underInts hi hz0 hz1 hz2 rfl (by decide) _ _ _ rfl (HOX.out.alloc _) ⟨wr.heap.size, 0, none⟩ 1 1 [.int .i64 (z p k)] rfl rfl (cell_one_new _ _ _) (by intro u hu; simp at hu; subst hu; rfl) (by unfold maxLen; omega) (by omega) (by simp; omega) ?_; intro x2 w1 hx2 hg2 _ hat2; have R1 := Lib.hid (own_step HOX.out HOY.out HAP.out HBT.out hbz hx2 hg2 hat2); have HBW1 := Lib.hid (HB.out.trans (R1.out.2.2.2.1.mono hs0)); have hbz1 := R1.out.2.2.2.2; have hcr1 := cell_mono HC1.out HBW1.out; have hcj := cell_mono HCJ.out HBW1.out; have HOY1 := Lib.hid R1.out.2.1; clear hx2 hg2 hat2 hcr hck) | (at_builtin; refine wpList_append_own_at _ rfl (.tmp 98) (.tmp 106) 24 rfl wq.heap.size 3 i0 (.int .i64 0) 1 8 Try.underInts hi hz0 hz1 hz2 rfl (by decide) _ _ _ rfl (HOY1.out.alloc _) ⟨w1.heap.size, 0, none⟩ 1 1 [.int .i64 (z p j)] rfl rfl (cell_one_new _ _ _) (by intro u hu; simp at hu; subst hu; rfl) (by unfold maxLen; omega) (by omega) (by simp; omega) ?_; intro y2 w2 hy2 hg3 _ hat3; have R2 := Lib.hid (own_step R1.out.2.1 R1.out.1 R1.out.2.2.1.symm R1.out.2.2.2.1 R1.out.2.2.2.2 hy2 hg3 hat3); clear hy2 hg3 hat3 hcr1 hcj))
                go_roundw
                case rel => exact ⟨p + 1, by omega, by go_num, by rw [ints_succ]; exact R2.out.2.1, by rw [ints_succ]; exact R2.out.1, R2.out.2.2.1.symm, R2.out.2.2.2.1, R2.out.2.2.2.2⟩
                case measure => simp [intOf]; omega
              · obtain rfl : n = p := by omega
                obtain ⟨wt, rfl⟩ : ∃ wt : World, wt = wr := ⟨_, rfl⟩
                obtain ⟨ax, capx, rfl, hix⟩ := Is.of_owns HOX.out
                obtain ⟨ay, capy, rfl, hiy⟩ := Is.of_owns HOY.out
                have HIX := Lib.hid hix
                have HIY := Lib.hid hiy
                have hb := HBT.out
                clear hix hiy HOX HOY HAP HBT HBW hbz
                have hN_wt : N ≤ wt.heap.size := Nat.le_trans hN hb.size
                have hs_wt : wq.heap.size ≤ wt.heap.size := hb.size
                have hs0_wt : w.heap.size ≤ wt.heap.size := Nat.le_trans hs0 hb.size
                have hl_A_wt : g < wt.heap.size := Nat.lt_of_lt_of_le hl_A hb.size
                have k_A_0_wt : wt.cell? ⟨g, 0, none⟩ = some (.bool (decide ((p2).num < 0))) := (hb.cell (p := ⟨g, 0, none⟩) hl_A).trans k_A_0
                have k_A_1_wt : wt.cell? ⟨g, 1, none⟩ = some (.slice rx (nlen (p2).num.natAbs) cx) := (hb.cell (p := ⟨g, 1, none⟩) hl_A).trans k_A_1
                have k_A_2_wt : wt.cell? ⟨g, 2, none⟩ = some (.slice rx2 (nlen (p2).den) cx2) := (hb.cell (p := ⟨g, 2, none⟩) hl_A).trans k_A_2
                have f_A_wt : ∀ o, wt.frozen? ⟨g, o, none⟩ = false := fun o => (hb.frozen (p := ⟨g, o, none⟩) hl_A).trans (f_A o)
                have HX_A_wt := Lib.hid (HX_A.out.below hb)
                have hl_E_wt : g + 1 < wt.heap.size := Nat.lt_of_lt_of_le hl_E hb.size
                have k_E_0_wt : wt.cell? ⟨g + 1, 0, none⟩ = some (.bool s8) := (hb.cell (p := ⟨g + 1, 0, none⟩) hl_E).trans k_E_0
                have k_E_1_wt : wt.cell? ⟨g + 1, 1, none⟩ = some (.slice a8 n8 c8) := (hb.cell (p := ⟨g + 1, 1, none⟩) hl_E).trans k_E_1
                have k_E_2_wt : wt.cell? ⟨g + 1, 2, none⟩ = some (.slice d8 m8 e8) := (hb.cell (p := ⟨g + 1, 2, none⟩) hl_E).trans k_E_2
                have f_E_wt : ∀ o, wt.frozen? ⟨g + 1, o, none⟩ = false := fun o => (hb.frozen (p := ⟨g + 1, o, none⟩) hl_E).trans (f_E o)
                have HX_E_wt := Lib.hid (HX_E.out.below hb)
                have hl_O_wt : g + 1 + 1 < wt.heap.size := Nat.lt_of_lt_of_le hl_O hb.size
                have k_O_0_wt : wt.cell? ⟨g + 1 + 1, 0, none⟩ = some (.bool s9) := (hb.cell (p := ⟨g + 1 + 1, 0, none⟩) hl_O).trans k_O_0
                have k_O_1_wt : wt.cell? ⟨g + 1 + 1, 1, none⟩ = some (.slice a9 n9 c9) := (hb.cell (p := ⟨g + 1 + 1, 1, none⟩) hl_O).trans k_O_1
                have k_O_2_wt : wt.cell? ⟨g + 1 + 1, 2, none⟩ = some (.slice d9 m9 e9) := (hb.cell (p := ⟨g + 1 + 1, 2, none⟩) hl_O).trans k_O_2
                have f_O_wt : ∀ o, wt.frozen? ⟨g + 1 + 1, o, none⟩ = false := fun o => (hb.frozen (p := ⟨g + 1 + 1, o, none⟩) hl_O).trans (f_O o)
                have HX_O_wt := Lib.hid (HX_O.out.below hb)
                have HX1_wt := Lib.hid (HX1.out.below hb)
                have HX2_wt := Lib.hid (HX2.out.below hb)
                have HR8_wt := Lib.hid (HR8.out.below hb)
                have HR9_wt := Lib.hid (HR9.out.below hb)
                have HB_wt := Lib.hid (HB.out.trans (hb.mono hs0))
                clear hb
                clear hl_A f_A HX_A k_A_0 k_A_1 k_A_2 hl_E f_E HX_E k_E_0 k_E_1 k_E_2 hl_O f_O HX_O k_O_0 k_O_1 k_O_2 HX1 HX2 HR8 HR9 HB hN hs0
                have hN := hN_wt
                have HB := HB_wt
                have hs0 := hs0_wt
                have hl_A := hl_A_wt
                have f_A := f_A_wt
                have HX_A := HX_A_wt
                have k_A_0 := k_A_0_wt
                have k_A_1 := k_A_1_wt
                have k_A_2 := k_A_2_wt
                have hl_E := hl_E_wt
                have f_E := f_E_wt
                have HX_E := HX_E_wt
                have k_E_0 := k_E_0_wt
                have k_E_1 := k_E_1_wt
                have k_E_2 := k_E_2_wt
                have hl_O := hl_O_wt
                have f_O := f_O_wt
                have HX_O := HX_O_wt
                have k_O_0 := k_O_0_wt
                have k_O_1 := k_O_1_wt
                have k_O_2 := k_O_2_wt
                have HX1 := HX1_wt
                have HX2 := HX2_wt
                have HR8 := HR8_wt
                have HR9 := HR9_wt
                clear hN_wt HB_wt hs0_wt hl_A_wt f_A_wt HX_A_wt k_A_0_wt k_A_1_wt k_A_2_wt hl_E_wt f_E_wt HX_E_wt k_E_0_wt k_E_1_wt k_E_2_wt hl_O_wt f_O_wt HX_O_wt k_O_0_wt k_O_1_wt k_O_2_wt HX1_wt HX2_wt HR8_wt HR9_wt
                go_wp2_with fail
                refine (Covariance_ok (N := N) _ _ _ _ _ (colZ z k) (colZ z j) _ hN HIX.out HIY.out (HCol.out k hkK) (HCol.out j hjK) n0 (by omega) q1 HQ1.out).mono ?_
                rintro e wb ⟨rc, cc, rc2, cc2, rfl, hn, hn', hb⟩
                have hN_wb : N ≤ wb.heap.size := Nat.le_trans hN hb.size
                have hs_wb : wt.heap.size ≤ wb.heap.size := hb.size
                have hs0_wb : w.heap.size ≤ wb.heap.size := Nat.le_trans hs0 hb.size
                have hl_A_wb : g < wb.heap.size := Nat.lt_of_lt_of_le hl_A hb.size
                have k_A_0_wb : wb.cell? ⟨g, 0, none⟩ = some (.bool (decide ((p2).num < 0))) := (hb.cell (p := ⟨g, 0, none⟩) hl_A).trans k_A_0
                have k_A_1_wb : wb.cell? ⟨g, 1, none⟩ = some (.slice rx (nlen (p2).num.natAbs) cx) := (hb.cell (p := ⟨g, 1, none⟩) hl_A).trans k_A_1
                have k_A_2_wb : wb.cell? ⟨g, 2, none⟩ = some (.slice rx2 (nlen (p2).den) cx2) := (hb.cell (p := ⟨g, 2, none⟩) hl_A).trans k_A_2
                have f_A_wb : ∀ o, wb.frozen? ⟨g, o, none⟩ = false := fun o => (hb.frozen (p := ⟨g, o, none⟩) hl_A).trans (f_A o)
                have HX_A_wb := Lib.hid (HX_A.out.below hb)
                have hl_E_wb : g + 1 < wb.heap.size := Nat.lt_of_lt_of_le hl_E hb.size
                have k_E_0_wb : wb.cell? ⟨g + 1, 0, none⟩ = some (.bool s8) := (hb.cell (p := ⟨g + 1, 0, none⟩) hl_E).trans k_E_0
                have k_E_1_wb : wb.cell? ⟨g + 1, 1, none⟩ = some (.slice a8 n8 c8) := (hb.cell (p := ⟨g + 1, 1, none⟩) hl_E).trans k_E_1
                have k_E_2_wb : wb.cell? ⟨g + 1, 2, none⟩ = some (.slice d8 m8 e8) := (hb.cell (p := ⟨g + 1, 2, none⟩) hl_E).trans k_E_2
                have f_E_wb : ∀ o, wb.frozen? ⟨g + 1, o, none⟩ = false := fun o => (hb.frozen (p := ⟨g + 1, o, none⟩) hl_E).trans (f_E o)
                have HX_E_wb := Lib.hid (HX_E.out.below hb)
                have hl_O_wb : g + 1 + 1 < wb.heap.size := Nat.lt_of_lt_of_le hl_O hb.size
                have k_O_0_wb : wb.cell? ⟨g + 1 + 1, 0, none⟩ = some (.bool s9) := (hb.cell (p := ⟨g + 1 + 1, 0, none⟩) hl_O).trans k_O_0
                have k_O_1_wb : wb.cell? ⟨g + 1 + 1, 1, none⟩ = some (.slice a9 n9 c9) := (hb.cell (p := ⟨g + 1 + 1, 1, none⟩) hl_O).trans k_O_1
                have k_O_2_wb : wb.cell? ⟨g + 1 + 1, 2, none⟩ = some (.slice d9 m9 e9) := (hb.cell (p := ⟨g + 1 + 1, 2, none⟩) hl_O).trans k_O_2
                have f_O_wb : ∀ o, wb.frozen? ⟨g + 1 + 1, o, none⟩ = false := fun o => (hb.frozen (p := ⟨g + 1 + 1, o, none⟩) hl_O).trans (f_O o)
                have HX_O_wb := Lib.hid (HX_O.out.below hb)
                have HX1_wb := Lib.hid (HX1.out.below hb)
                have HX2_wb := Lib.hid (HX2.out.below hb)
                have HR8_wb := Lib.hid (HR8.out.below hb)
                have HR9_wb := Lib.hid (HR9.out.below hb)
                have HB_wb := Lib.hid (HB.out.trans (hb.mono hs0))
                clear hb
                clear hl_A f_A HX_A k_A_0 k_A_1 k_A_2 hl_E f_E HX_E k_E_0 k_E_1 k_E_2 hl_O f_O HX_O k_O_0 k_O_1 k_O_2 HX1 HX2 HR8 HR9 HB hN hs0
                have hN := hN_wb
                have HB := HB_wb
                have hs0 := hs0_wb
                have hl_A := hl_A_wb
                have f_A := f_A_wb
                have HX_A := HX_A_wb
                have k_A_0 := k_A_0_wb
                have k_A_1 := k_A_1_wb
                have k_A_2 := k_A_2_wb
                have hl_E := hl_E_wb
                have f_E := f_E_wb
                have HX_E := HX_E_wb
                have k_E_0 := k_E_0_wb
                have k_E_1 := k_E_1_wb
                have k_E_2 := k_E_2_wb
                have hl_O := hl_O_wb
                have f_O := f_O_wb
                have HX_O := HX_O_wb
                have k_O_0 := k_O_0_wb
                have k_O_1 := k_O_1_wb
                have k_O_2 := k_O_2_wb
                have HX1 := HX1_wb
                have HX2 := HX2_wb
                have HR8 := HR8_wb
                have HR9 := HR9_wb
                clear hN_wb HB_wb hs0_wb hl_A_wb f_A_wb HX_A_wb k_A_0_wb k_A_1_wb k_A_2_wb hl_E_wb f_E_wb HX_E_wb k_E_0_wb k_E_1_wb k_E_2_wb hl_O_wb f_O_wb HX_O_wb k_O_0_wb k_O_1_wb k_O_2_wb HX1_wb HX2_wb HR8_wb HR9_wb
                have HC1 := Lib.hid hn
                have HC2 := Lib.hid hn'
                clear hn hn' HIX HIY
                go_wp2_with fail
                refine calls_name fun W1 hW => ?_
                have hN_W1 : N ≤ W1.heap.size := by rw [← hW]; (first | omega | (simp; done) | (simp; omega))
                have hs_W1 : wb.heap.size ≤ W1.heap.size := by rw [← hW]; (first | omega | (simp; done) | (simp; omega))
                have hs0_W1 : w.heap.size ≤ W1.heap.size := by rw [← hW]; (first | omega | (simp; done) | (simp; omega))
                have hd_A_C : g < wb.heap.size := by omega
                have hd_E_C : g + 1 < wb.heap.size := by omega
                have hd_O_C : g + 1 + 1 < wb.heap.size := by omega
                have hl_A_W1 : g < W1.heap.size := by rw [← hW]; (first | omega | (simp; done) | (simp; omega))
                have k_A_0_W1 : W1.cell? ⟨g, 0, none⟩ = some (.bool (decide ((p2).num < 0))) := by rw [← hW]; (first | with_reducible exact k_A_0 | (simp [go_sem, k_A_0]; done) | (simp [go_sem, k_A_0, hl_A]; done) | (go_simp; done) | (simp [go_sem, k_A_0, k_A_1, k_A_2, k_E_0, k_E_1, k_E_2, k_O_0, k_O_1, k_O_2, f_A, f_E, f_O, hl_A, hl_E, hl_O]; done))
                have k_A_1_W1 : W1.cell? ⟨g, 1, none⟩ = some (.slice rx (nlen (p2).num.natAbs) cx) := by rw [← hW]; (first | with_reducible exact k_A_1 | (simp [go_sem, k_A_1]; done) | (simp [go_sem, k_A_1, hl_A]; done) | (go_simp; done) | (simp [go_sem, k_A_0, k_A_1, k_A_2, k_E_0, k_E_1, k_E_2, k_O_0, k_O_1, k_O_2, f_A, f_E, f_O, hl_A, hl_E, hl_O]; done))
                have k_A_2_W1 : W1.cell? ⟨g, 2, none⟩ = some (.slice rx2 (nlen (p2).den) cx2) := by rw [← hW]; (first | with_reducible exact k_A_2 | (simp [go_sem, k_A_2]; done) | (simp [go_sem, k_A_2, hl_A]; done) | (go_simp; done) | (simp [go_sem, k_A_0, k_A_1, k_A_2, k_E_0, k_E_1, k_E_2, k_O_0, k_O_1, k_O_2, f_A, f_E, f_O, hl_A, hl_E, hl_O]; done))
                have f_A_W1 : ∀ o, W1.frozen? ⟨g, o, none⟩ = false := by intro o; rw [← hW]; (first | with_reducible exact f_A o | (simp [go_sem, f_A]; done) | (simp [go_sem, f_A, hl_A]; done) | (go_simp; done) | (simp [go_sem, k_A_0, k_A_1, k_A_2, k_E_0, k_E_1, k_E_2, k_O_0, k_O_1, k_O_2, f_A, f_E, f_O, hl_A, hl_E, hl_O]; done))
                have HX_A_W1 := Lib.hid (show Bn W1 (g) by rw [← hW]; (repeat' (first | with_reducible exact Kp.refl _ _ | with_reducible exact HX_A.out | with_reducible exact HX_E.out | with_reducible exact HX_O.out | with_reducible apply Kp.alloc | with_reducible apply Kp.drew | (with_reducible refine Kp.put ?_ ?_ ?_ _; rotate_left; (focus (first | omega | (simp; done) | (simp; omega))); rotate_left) | (with_reducible refine Bn.new _ _ _ _ ?_ ?_; (focus (first | omega | (simp; done) | (simp; omega))); decide) | with_reducible apply Bn.alloc | with_reducible apply Bn.drew | with_reducible apply Bn.set)))
                have hl_E_W1 : g + 1 < W1.heap.size := by rw [← hW]; (first | omega | (simp; done) | (simp; omega))
                have k_E_0_W1 : W1.cell? ⟨g + 1, 0, none⟩ = some (.bool s8) := by rw [← hW]; (first | with_reducible exact k_E_0 | (simp [go_sem, k_E_0]; done) | (simp [go_sem, k_E_0, hl_E]; done) | (go_simp; done) | (simp [go_sem, k_A_0, k_A_1, k_A_2, k_E_0, k_E_1, k_E_2, k_O_0, k_O_1, k_O_2, f_A, f_E, f_O, hl_A, hl_E, hl_O]; done))
                have k_E_1_W1 : W1.cell? ⟨g + 1, 1, none⟩ = some (.slice a8 n8 c8) := by rw [← hW]; (first | with_reducible exact k_E_1 | (simp [go_sem, k_E_1]; done) | (simp [go_sem, k_E_1, hl_E]; done) | (go_simp; done) | (simp [go_sem, k_A_0, k_A_1, k_A_2, k_E_0, k_E_1, k_E_2, k_O_0, k_O_1, k_O_2, f_A, f_E, f_O, hl_A, hl_E, hl_O]; done))
                have k_E_2_W1 : W1.cell? ⟨g + 1, 2, none⟩ = some (.slice d8 m8 e8) := by rw [← hW]; (first | with_reducible exact k_E_2 | (simp [go_sem, k_E_2]; done) | (simp [go_sem, k_E_2, hl_E]; done) | (go_simp; done) | (simp [go_sem, k_A_0, k_A_1, k_A_2, k_E_0, k_E_1, k_E_2, k_O_0, k_O_1, k_O_2, f_A, f_E, f_O, hl_A, hl_E, hl_O]; done))
                have f_E_W1 : ∀ o, W1.frozen? ⟨g + 1, o, none⟩ = false := by intro o; rw [← hW]; (first | with_reducible exact f_E o | (simp [go_sem, f_E]; done) | (simp [go_sem, f_E, hl_E]; done) | (go_simp; done) | (simp [go_sem, k_A_0, k_A_1, k_A_2, k_E_0, k_E_1, k_E_2, k_O_0, k_O_1, k_O_2, f_A, f_E, f_O, hl_A, hl_E, hl_O]; done))
                have HX_E_W1 := Lib.hid (show Bn W1 (g + 1) by rw [← hW]; (repeat' (first | with_reducible exact Kp.refl _ _ | with_reducible exact HX_A.out | with_reducible exact HX_E.out | with_reducible exact HX_O.out | with_reducible apply Kp.alloc | with_reducible apply Kp.drew | (with_reducible refine Kp.put ?_ ?_ ?_ _; rotate_left; (focus (first | omega | (simp; done) | (simp; omega))); rotate_left) | (with_reducible refine Bn.new _ _ _ _ ?_ ?_; (focus (first | omega | (simp; done) | (simp; omega))); decide) | with_reducible apply Bn.alloc | with_reducible apply Bn.drew | with_reducible apply Bn.set)))
                have hl_O_W1 : g + 1 + 1 < W1.heap.size := by rw [← hW]; (first | omega | (simp; done) | (simp; omega))
                have k_O_0_W1 : W1.cell? ⟨g + 1 + 1, 0, none⟩ = some (.bool s9) := by rw [← hW]; (first | with_reducible exact k_O_0 | (simp [go_sem, k_O_0]; done) | (simp [go_sem, k_O_0, hl_O]; done) | (go_simp; done) | (simp [go_sem, k_A_0, k_A_1, k_A_2, k_E_0, k_E_1, k_E_2, k_O_0, k_O_1, k_O_2, f_A, f_E, f_O, hl_A, hl_E, hl_O]; done))
                have k_O_1_W1 : W1.cell? ⟨g + 1 + 1, 1, none⟩ = some (.slice a9 n9 c9) := by rw [← hW]; (first | with_reducible exact k_O_1 | (simp [go_sem, k_O_1]; done) | (simp [go_sem, k_O_1, hl_O]; done) | (go_simp; done) | (simp [go_sem, k_A_0, k_A_1, k_A_2, k_E_0, k_E_1, k_E_2, k_O_0, k_O_1, k_O_2, f_A, f_E, f_O, hl_A, hl_E, hl_O]; done))
                have k_O_2_W1 : W1.cell? ⟨g + 1 + 1, 2, none⟩ = some (.slice d9 m9 e9) := by rw [← hW]; (first | with_reducible exact k_O_2 | (simp [go_sem, k_O_2]; done) | (simp [go_sem, k_O_2, hl_O]; done) | (go_simp; done) | (simp [go_sem, k_A_0, k_A_1, k_A_2, k_E_0, k_E_1, k_E_2, k_O_0, k_O_1, k_O_2, f_A, f_E, f_O, hl_A, hl_E, hl_O]; done))
                have f_O_W1 : ∀ o, W1.frozen? ⟨g + 1 + 1, o, none⟩ = false := by intro o; rw [← hW]; (first | with_reducible exact f_O o | (simp [go_sem, f_O]; done) | (simp [go_sem, f_O, hl_O]; done) | (go_simp; done) | (simp [go_sem, k_A_0, k_A_1, k_A_2, k_E_0, k_E_1, k_E_2, k_O_0, k_O_1, k_O_2, f_A, f_E, f_O, hl_A, hl_E, hl_O]; done))
                have HX_O_W1 := Lib.hid (show Bn W1 (g + 1 + 1) by rw [← hW]; (repeat' (first | with_reducible exact Kp.refl _ _ | with_reducible exact HX_A.out | with_reducible exact HX_E.out | with_reducible exact HX_O.out | with_reducible apply Kp.alloc | with_reducible apply Kp.drew | (with_reducible refine Kp.put ?_ ?_ ?_ _; rotate_left; (focus (first | omega | (simp; done) | (simp; omega))); rotate_left) | (with_reducible refine Bn.new _ _ _ _ ?_ ?_; (focus (first | omega | (simp; done) | (simp; omega))); decide) | with_reducible apply Bn.alloc | with_reducible apply Bn.drew | with_reducible apply Bn.set)))
                have hl_C_W1 : wb.heap.size < W1.heap.size := by rw [← hW]; (first | omega | (simp; done) | (simp; omega))
                have k_C_0_W1 : W1.cell? ⟨wb.heap.size, 0, none⟩ = some (.bool (decide ((q1).num < 0))) := by rw [← hW]; (first | (go_simp; done) | (simp; done) | (simp [go_sem]; done) | (simp [go_sem, k_A_0, k_A_1, k_A_2, k_E_0, k_E_1, k_E_2, k_O_0, k_O_1, k_O_2, f_A, f_E, f_O, hl_A, hl_E, hl_O]; done))
                have k_C_1_W1 : W1.cell? ⟨wb.heap.size, 1, none⟩ = some (.slice rc (nlen (q1).num.natAbs) cc) := by rw [← hW]; (first | (go_simp; done) | (simp; done) | (simp [go_sem]; done) | (simp [go_sem, k_A_0, k_A_1, k_A_2, k_E_0, k_E_1, k_E_2, k_O_0, k_O_1, k_O_2, f_A, f_E, f_O, hl_A, hl_E, hl_O]; done))
                have k_C_2_W1 : W1.cell? ⟨wb.heap.size, 2, none⟩ = some (.slice rc2 (nlen (q1).den) cc2) := by rw [← hW]; (first | (go_simp; done) | (simp; done) | (simp [go_sem]; done) | (simp [go_sem, k_A_0, k_A_1, k_A_2, k_E_0, k_E_1, k_E_2, k_O_0, k_O_1, k_O_2, f_A, f_E, f_O, hl_A, hl_E, hl_O]; done))
                have f_C_W1 : ∀ o, W1.frozen? ⟨wb.heap.size, o, none⟩ = false := by intro o; rw [← hW]; (first | (go_simp; done) | (simp; done) | (simp [go_sem]; done) | (simp [go_sem, k_A_0, k_A_1, k_A_2, k_E_0, k_E_1, k_E_2, k_O_0, k_O_1, k_O_2, f_A, f_E, f_O, hl_A, hl_E, hl_O]; done))
                have HX_C_W1 := Lib.hid (show Bn W1 (wb.heap.size) by rw [← hW]; (repeat' (first | with_reducible exact Kp.refl _ _ | with_reducible exact HX_A.out | with_reducible exact HX_E.out | with_reducible exact HX_O.out | with_reducible apply Kp.alloc | with_reducible apply Kp.drew | (with_reducible refine Kp.put ?_ ?_ ?_ _; rotate_left; (focus (first | omega | (simp; done) | (simp; omega))); rotate_left) | (with_reducible refine Bn.new _ _ _ _ ?_ ?_; (focus (first | omega | (simp; done) | (simp; omega))); decide) | with_reducible apply Bn.alloc | with_reducible apply Bn.drew | with_reducible apply Bn.set)))
                have HK_W1 := Lib.hid (show Kp N wb W1 by rw [← hW]; (repeat' (first | with_reducible exact Kp.refl _ _ | with_reducible exact HX_A.out | with_reducible exact HX_E.out | with_reducible exact HX_O.out | with_reducible apply Kp.alloc | with_reducible apply Kp.drew | (with_reducible refine Kp.put ?_ ?_ ?_ _; rotate_left; (focus (first | omega | (simp; done) | (simp; omega))); rotate_left) | (with_reducible refine Bn.new _ _ _ _ ?_ ?_; (focus (first | omega | (simp; done) | (simp; omega))); decide) | with_reducible apply Bn.alloc | with_reducible apply Bn.drew | with_reducible apply Bn.set)))
                have HX1_W1 := Lib.hid (HX1.out.keep HK_W1.out)
                have HX2_W1 := Lib.hid (HX2.out.keep HK_W1.out)
                have HR8_W1 := Lib.hid (HR8.out.keep HK_W1.out)
                have HR9_W1 := Lib.hid (HR9.out.keep HK_W1.out)
                have HC1_W1 := Lib.hid (HC1.out.keep HK_W1.out)
                have HC2_W1 := Lib.hid (HC2.out.keep HK_W1.out)
                have HB_W1 := Lib.hid (show Below w.heap.size w W1 by rw [← hW]; (repeat' (first | with_reducible exact Below.refl _ _ | with_reducible exact HB.out | (with_reducible refine Below.alloc ?_ ?_ _; rotate_left; (focus (first | omega | (simp; done) | (simp; omega)))) | with_reducible apply Below.drew | (with_reducible refine Below.setCell ?_ ?_ _; rotate_left; (focus (first | omega | (simp; done) | (simp; omega)))))))
                clear hW HK_W1
                clear hl_A f_A HX_A k_A_0 k_A_1 k_A_2 hl_E f_E HX_E k_E_0 k_E_1 k_E_2 hl_O f_O HX_O k_O_0 k_O_1 k_O_2 HX1 HX2 HR8 HR9 HC1 HC2 HB hN hs0
                have hN := hN_W1
                have HB := HB_W1
                have hs0 := hs0_W1
                have hl_A := hl_A_W1
                have f_A := f_A_W1
                have HX_A := HX_A_W1
                have k_A_0 := k_A_0_W1
                have k_A_1 := k_A_1_W1
                have k_A_2 := k_A_2_W1
                have hl_E := hl_E_W1
                have f_E := f_E_W1
                have HX_E := HX_E_W1
                have k_E_0 := k_E_0_W1
                have k_E_1 := k_E_1_W1
                have k_E_2 := k_E_2_W1
                have hl_O := hl_O_W1
                have f_O := f_O_W1
                have HX_O := HX_O_W1
                have k_O_0 := k_O_0_W1
                have k_O_1 := k_O_1_W1
                have k_O_2 := k_O_2_W1
                have hl_C := hl_C_W1
                have f_C := f_C_W1
                have HX_C := HX_C_W1
                have k_C_0 := k_C_0_W1
                have k_C_1 := k_C_1_W1
                have k_C_2 := k_C_2_W1
                have HX1 := HX1_W1
                have HX2 := HX2_W1
                have HR8 := HR8_W1
                have HR9 := HR9_W1
                have HC1 := HC1_W1
                have HC2 := HC2_W1
                clear hN_W1 HB_W1 hs0_W1 hl_A_W1 f_A_W1 HX_A_W1 k_A_0_W1 k_A_1_W1 k_A_2_W1 hl_E_W1 f_E_W1 HX_E_W1 k_E_0_W1 k_E_1_W1 k_E_2_W1 hl_O_W1 f_O_W1 HX_O_W1 k_O_0_W1 k_O_1_W1 k_O_2_W1 hl_C_W1 f_C_W1 HX_C_W1 k_C_0_W1 k_C_1_W1 k_C_2_W1 HX1_W1 HX2_W1 HR8_W1 HR9_W1 HC1_W1 HC2_W1
                refine (radd_any (N := N) _ _ _ _ _ _ _ _ _ _ _ _ _ _ 300 300 q8 q1 _ hN HR8.out (Rt.of_norm HC1.out HC2.out 300 (by have := HSZ1.out; omega)) (by omega) (by omega) q2 HQ2.out).mono ?_
                rintro e wd ⟨rd, cd, rd2, cd2, rfl, hn, hn', hb⟩
                have hN_wd : N ≤ wd.heap.size := Nat.le_trans hN hb.size
                have hs_wd : W1.heap.size ≤ wd.heap.size := hb.size
                have hs0_wd : w.heap.size ≤ wd.heap.size := Nat.le_trans hs0 hb.size
                have hl_A_wd : g < wd.heap.size := Nat.lt_of_lt_of_le hl_A hb.size
                have k_A_0_wd : wd.cell? ⟨g, 0, none⟩ = some (.bool (decide ((p2).num < 0))) := (hb.cell (p := ⟨g, 0, none⟩) hl_A).trans k_A_0
                have k_A_1_wd : wd.cell? ⟨g, 1, none⟩ = some (.slice rx (nlen (p2).num.natAbs) cx) := (hb.cell (p := ⟨g, 1, none⟩) hl_A).trans k_A_1
                have k_A_2_wd : wd.cell? ⟨g, 2, none⟩ = some (.slice rx2 (nlen (p2).den) cx2) := (hb.cell (p := ⟨g, 2, none⟩) hl_A).trans k_A_2
                have f_A_wd : ∀ o, wd.frozen? ⟨g, o, none⟩ = false := fun o => (hb.frozen (p := ⟨g, o, none⟩) hl_A).trans (f_A o)
                have HX_A_wd := Lib.hid (HX_A.out.below hb)
                have hl_E_wd : g + 1 < wd.heap.size := Nat.lt_of_lt_of_le hl_E hb.size
                have k_E_0_wd : wd.cell? ⟨g + 1, 0, none⟩ = some (.bool s8) := (hb.cell (p := ⟨g + 1, 0, none⟩) hl_E).trans k_E_0
                have k_E_1_wd : wd.cell? ⟨g + 1, 1, none⟩ = some (.slice a8 n8 c8) := (hb.cell (p := ⟨g + 1, 1, none⟩) hl_E).trans k_E_1
                have k_E_2_wd : wd.cell? ⟨g + 1, 2, none⟩ = some (.slice d8 m8 e8) := (hb.cell (p := ⟨g + 1, 2, none⟩) hl_E).trans k_E_2
                have f_E_wd : ∀ o, wd.frozen? ⟨g + 1, o, none⟩ = false := fun o => (hb.frozen (p := ⟨g + 1, o, none⟩) hl_E).trans (f_E o)
                have HX_E_wd := Lib.hid (HX_E.out.below hb)
                have hl_O_wd : g + 1 + 1 < wd.heap.size := Nat.lt_of_lt_of_le hl_O hb.size
                have k_O_0_wd : wd.cell? ⟨g + 1 + 1, 0, none⟩ = some (.bool s9) := (hb.cell (p := ⟨g + 1 + 1, 0, none⟩) hl_O).trans k_O_0
                have k_O_1_wd : wd.cell? ⟨g + 1 + 1, 1, none⟩ = some (.slice a9 n9 c9) := (hb.cell (p := ⟨g + 1 + 1, 1, none⟩) hl_O).trans k_O_1
                have k_O_2_wd : wd.cell? ⟨g + 1 + 1, 2, none⟩ = some (.slice d9 m9 e9) := (hb.cell (p := ⟨g + 1 + 1, 2, none⟩) hl_O).trans k_O_2
                have f_O_wd : ∀ o, wd.frozen? ⟨g + 1 + 1, o, none⟩ = false := fun o => (hb.frozen (p := ⟨g + 1 + 1, o, none⟩) hl_O).trans (f_O o)
                have HX_O_wd := Lib.hid (HX_O.out.below hb)
                have hl_C_wd : wb.heap.size < wd.heap.size := Nat.lt_of_lt_of_le hl_C hb.size
                have k_C_0_wd : wd.cell? ⟨wb.heap.size, 0, none⟩ = some (.bool (decide ((q1).num < 0))) := (hb.cell (p := ⟨wb.heap.size, 0, none⟩) hl_C).trans k_C_0
                have k_C_1_wd : wd.cell? ⟨wb.heap.size, 1, none⟩ = some (.slice rc (nlen (q1).num.natAbs) cc) := (hb.cell (p := ⟨wb.heap.size, 1, none⟩) hl_C).trans k_C_1
                have k_C_2_wd : wd.cell? ⟨wb.heap.size, 2, none⟩ = some (.slice rc2 (nlen (q1).den) cc2) := (hb.cell (p := ⟨wb.heap.size, 2, none⟩) hl_C).trans k_C_2
                have f_C_wd : ∀ o, wd.frozen? ⟨wb.heap.size, o, none⟩ = false := fun o => (hb.frozen (p := ⟨wb.heap.size, o, none⟩) hl_C).trans (f_C o)
                have HX_C_wd := Lib.hid (HX_C.out.below hb)
                have HX1_wd := Lib.hid (HX1.out.below hb)
                have HX2_wd := Lib.hid (HX2.out.below hb)
                have HR8_wd := Lib.hid (HR8.out.below hb)
                have HR9_wd := Lib.hid (HR9.out.below hb)
                have HC1_wd := Lib.hid (HC1.out.below hb)
                have HC2_wd := Lib.hid (HC2.out.below hb)
                have HB_wd := Lib.hid (HB.out.trans (hb.mono hs0))
                clear hb
                clear hl_A f_A HX_A k_A_0 k_A_1 k_A_2 hl_E f_E HX_E k_E_0 k_E_1 k_E_2 hl_O f_O HX_O k_O_0 k_O_1 k_O_2 hl_C f_C HX_C k_C_0 k_C_1 k_C_2 HX1 HX2 HR8 HR9 HC1 HC2 HB hN hs0
                have hN := hN_wd
                have HB := HB_wd
                have hs0 := hs0_wd
                have hl_A := hl_A_wd
                have f_A := f_A_wd
                have HX_A := HX_A_wd
                have k_A_0 := k_A_0_wd
                have k_A_1 := k_A_1_wd
                have k_A_2 := k_A_2_wd
                have hl_E := hl_E_wd
                have f_E := f_E_wd
                have HX_E := HX_E_wd
                have k_E_0 := k_E_0_wd
                have k_E_1 := k_E_1_wd
                have k_E_2 := k_E_2_wd
                have hl_O := hl_O_wd
                have f_O := f_O_wd
                have HX_O := HX_O_wd
                have k_O_0 := k_O_0_wd
                have k_O_1 := k_O_1_wd
                have k_O_2 := k_O_2_wd
                have hl_C := hl_C_wd
                have f_C := f_C_wd
                have HX_C := HX_C_wd
                have k_C_0 := k_C_0_wd
                have k_C_1 := k_C_1_wd
                have k_C_2 := k_C_2_wd
                have HX1 := HX1_wd
                have HX2 := HX2_wd
                have HR8 := HR8_wd
                have HR9 := HR9_wd
                have HC1 := HC1_wd
                have HC2 := HC2_wd
                clear hN_wd HB_wd hs0_wd hl_A_wd f_A_wd HX_A_wd k_A_0_wd k_A_1_wd k_A_2_wd hl_E_wd f_E_wd HX_E_wd k_E_0_wd k_E_1_wd k_E_2_wd hl_O_wd f_O_wd HX_O_wd k_O_0_wd k_O_1_wd k_O_2_wd hl_C_wd f_C_wd HX_C_wd k_C_0_wd k_C_1_wd k_C_2_wd HX1_wd HX2_wd HR8_wd HR9_wd HC1_wd HC2_wd
                have HD1 := Lib.hid hn
                clear hn
                have HD2 := Lib.hid hn'
                clear hn'
                by_cases hkj : k = j
                · subst hkj
                  have HQO := Lib.hid (show ownQ z n k (k + 1) = q3 by rw [ownQ_self, HQ9.out, HQ1.out, HQ3.out])
                  have hkk : ((k : Int) == (k : Int)) = true := by simp
                  go_wp2_with fail
                  refine calls_name fun W2 hW => ?_
                  have hN_W2 : N ≤ W2.heap.size := by rw [← hW]; (first | omega | (simp; done) | (simp; omega))
                  have hs_W2 : wd.heap.size ≤ W2.heap.size := by rw [← hW]; (first | omega | (simp; done) | (simp; omega))
                  have hs0_W2 : w.heap.size ≤ W2.heap.size := by rw [← hW]; (first | omega | (simp; done) | (simp; omega))
                  have hl_A_W2 : g < W2.heap.size := by rw [← hW]; (first | omega | (simp; done) | (simp; omega))
                  have k_A_0_W2 : W2.cell? ⟨g, 0, none⟩ = some (.bool (decide ((p2).num < 0))) := by rw [← hW]; (first | with_reducible exact k_A_0 | (simp [go_sem, k_A_0]; done) | (simp [go_sem, k_A_0, hl_A]; done) | (go_simp; done) | (simp [go_sem, k_A_0, k_A_1, k_A_2, k_E_0, k_E_1, k_E_2, k_O_0, k_O_1, k_O_2, k_C_0, k_C_1, k_C_2, f_A, f_E, f_O, f_C, hl_A, hl_E, hl_O, hl_C]; done))
                  have k_A_1_W2 : W2.cell? ⟨g, 1, none⟩ = some (.slice rx (nlen (p2).num.natAbs) cx) := by rw [← hW]; (first | with_reducible exact k_A_1 | (simp [go_sem, k_A_1]; done) | (simp [go_sem, k_A_1, hl_A]; done) | (go_simp; done) | (simp [go_sem, k_A_0, k_A_1, k_A_2, k_E_0, k_E_1, k_E_2, k_O_0, k_O_1, k_O_2, k_C_0, k_C_1, k_C_2, f_A, f_E, f_O, f_C, hl_A, hl_E, hl_O, hl_C]; done))
                  have k_A_2_W2 : W2.cell? ⟨g, 2, none⟩ = some (.slice rx2 (nlen (p2).den) cx2) := by rw [← hW]; (first | with_reducible exact k_A_2 | (simp [go_sem, k_A_2]; done) | (simp [go_sem, k_A_2, hl_A]; done) | (go_simp; done) | (simp [go_sem, k_A_0, k_A_1, k_A_2, k_E_0, k_E_1, k_E_2, k_O_0, k_O_1, k_O_2, k_C_0, k_C_1, k_C_2, f_A, f_E, f_O, f_C, hl_A, hl_E, hl_O, hl_C]; done))
                  have f_A_W2 : ∀ o, W2.frozen? ⟨g, o, none⟩ = false := by intro o; rw [← hW]; (first | with_reducible exact f_A o | (simp [go_sem, f_A]; done) | (simp [go_sem, f_A, hl_A]; done) | (go_simp; done) | (simp [go_sem, k_A_0, k_A_1, k_A_2, k_E_0, k_E_1, k_E_2, k_O_0, k_O_1, k_O_2, k_C_0, k_C_1, k_C_2, f_A, f_E, f_O, f_C, hl_A, hl_E, hl_O, hl_C]; done))
                  have HX_A_W2 := Lib.hid (show Bn W2 (g) by rw [← hW]; (repeat' (first | with_reducible exact Kp.refl _ _ | with_reducible exact HX_A.out | with_reducible exact HX_E.out | with_reducible exact HX_O.out | with_reducible exact HX_C.out | with_reducible apply Kp.alloc | with_reducible apply Kp.drew | (with_reducible refine Kp.put ?_ ?_ ?_ _; rotate_left; (focus (first | omega | (simp; done) | (simp; omega))); rotate_left) | (with_reducible refine Bn.new _ _ _ _ ?_ ?_; (focus (first | omega | (simp; done) | (simp; omega))); decide) | with_reducible apply Bn.alloc | with_reducible apply Bn.drew | with_reducible apply Bn.set)))
                  have hl_E_W2 : g + 1 < W2.heap.size := by rw [← hW]; (first | omega | (simp; done) | (simp; omega))
                  have k_E_0_W2 : W2.cell? ⟨g + 1, 0, none⟩ = some (.bool (decide ((q2).num < 0))) := by rw [← hW]; (first | (go_simp; done) | (simp [go_sem, k_E_0]; done) | (simp [go_sem, k_E_0, k_E_1, k_E_2]; done) | (simp [go_sem, k_A_0, k_A_1, k_A_2, k_E_0, k_E_1, k_E_2, k_O_0, k_O_1, k_O_2, k_C_0, k_C_1, k_C_2, f_A, f_E, f_O, f_C, hl_A, hl_E, hl_O, hl_C]; done))
                  have k_E_1_W2 : W2.cell? ⟨g + 1, 1, none⟩ = some (.slice rd (nlen (q2).num.natAbs) cd) := by rw [← hW]; (first | (go_simp; done) | (simp [go_sem, k_E_1]; done) | (simp [go_sem, k_E_0, k_E_1, k_E_2]; done) | (simp [go_sem, k_A_0, k_A_1, k_A_2, k_E_0, k_E_1, k_E_2, k_O_0, k_O_1, k_O_2, k_C_0, k_C_1, k_C_2, f_A, f_E, f_O, f_C, hl_A, hl_E, hl_O, hl_C]; done))
                  have k_E_2_W2 : W2.cell? ⟨g + 1, 2, none⟩ = some (.slice rd2 (nlen (q2).den) cd2) := by rw [← hW]; (first | (go_simp; done) | (simp [go_sem, k_E_2]; done) | (simp [go_sem, k_E_0, k_E_1, k_E_2]; done) | (simp [go_sem, k_A_0, k_A_1, k_A_2, k_E_0, k_E_1, k_E_2, k_O_0, k_O_1, k_O_2, k_C_0, k_C_1, k_C_2, f_A, f_E, f_O, f_C, hl_A, hl_E, hl_O, hl_C]; done))
                  have f_E_W2 : ∀ o, W2.frozen? ⟨g + 1, o, none⟩ = false := by intro o; rw [← hW]; (first | with_reducible exact f_E o | (simp [go_sem, f_E]; done) | (simp [go_sem, f_E, hl_E]; done) | (go_simp; done) | (simp [go_sem, k_A_0, k_A_1, k_A_2, k_E_0, k_E_1, k_E_2, k_O_0, k_O_1, k_O_2, k_C_0, k_C_1, k_C_2, f_A, f_E, f_O, f_C, hl_A, hl_E, hl_O, hl_C]; done))
                  have HX_E_W2 := Lib.hid (show Bn W2 (g + 1) by rw [← hW]; (repeat' (first | with_reducible exact Kp.refl _ _ | with_reducible exact HX_A.out | with_reducible exact HX_E.out | with_reducible exact HX_O.out | with_reducible exact HX_C.out | with_reducible apply Kp.alloc | with_reducible apply Kp.drew | (with_reducible refine Kp.put ?_ ?_ ?_ _; rotate_left; (focus (first | omega | (simp; done) | (simp; omega))); rotate_left) | (with_reducible refine Bn.new _ _ _ _ ?_ ?_; (focus (first | omega | (simp; done) | (simp; omega))); decide) | with_reducible apply Bn.alloc | with_reducible apply Bn.drew | with_reducible apply Bn.set)))
                  have hl_O_W2 : g + 1 + 1 < W2.heap.size := by rw [← hW]; (first | omega | (simp; done) | (simp; omega))
                  have k_O_0_W2 : W2.cell? ⟨g + 1 + 1, 0, none⟩ = some (.bool s9) := by rw [← hW]; (first | with_reducible exact k_O_0 | (simp [go_sem, k_O_0]; done) | (simp [go_sem, k_O_0, hl_O]; done) | (go_simp; done) | (simp [go_sem, k_A_0, k_A_1, k_A_2, k_E_0, k_E_1, k_E_2, k_O_0, k_O_1, k_O_2, k_C_0, k_C_1, k_C_2, f_A, f_E, f_O, f_C, hl_A, hl_E, hl_O, hl_C]; done))
                  have k_O_1_W2 : W2.cell? ⟨g + 1 + 1, 1, none⟩ = some (.slice a9 n9 c9) := by rw [← hW]; (first | with_reducible exact k_O_1 | (simp [go_sem, k_O_1]; done) | (simp [go_sem, k_O_1, hl_O]; done) | (go_simp; done) | (simp [go_sem, k_A_0, k_A_1, k_A_2, k_E_0, k_E_1, k_E_2, k_O_0, k_O_1, k_O_2, k_C_0, k_C_1, k_C_2, f_A, f_E, f_O, f_C, hl_A, hl_E, hl_O, hl_C]; done))
                  have k_O_2_W2 : W2.cell? ⟨g + 1 + 1, 2, none⟩ = some (.slice d9 m9 e9) := by rw [← hW]; (first | with_reducible exact k_O_2 | (simp [go_sem, k_O_2]; done) | (simp [go_sem, k_O_2, hl_O]; done) | (go_simp; done) | (simp [go_sem, k_A_0, k_A_1, k_A_2, k_E_0, k_E_1, k_E_2, k_O_0, k_O_1, k_O_2, k_C_0, k_C_1, k_C_2, f_A, f_E, f_O, f_C, hl_A, hl_E, hl_O, hl_C]; done))
                  have f_O_W2 : ∀ o, W2.frozen? ⟨g + 1 + 1, o, none⟩ = false := by intro o; rw [← hW]; (first | with_reducible exact f_O o | (simp [go_sem, f_O]; done) | (simp [go_sem, f_O, hl_O]; done) | (go_simp; done) | (simp [go_sem, k_A_0, k_A_1, k_A_2, k_E_0, k_E_1, k_E_2, k_O_0, k_O_1, k_O_2, k_C_0, k_C_1, k_C_2, f_A, f_E, f_O, f_C, hl_A, hl_E, hl_O, hl_C]; done))
                  have HX_O_W2 := Lib.hid (show Bn W2 (g + 1 + 1) by rw [← hW]; (repeat' (first | with_reducible exact Kp.refl _ _ | with_reducible exact HX_A.out | with_reducible exact HX_E.out | with_reducible exact HX_O.out | with_reducible exact HX_C.out | with_reducible apply Kp.alloc | with_reducible apply Kp.drew | (with_reducible refine Kp.put ?_ ?_ ?_ _; rotate_left; (focus (first | omega | (simp; done) | (simp; omega))); rotate_left) | (with_reducible refine Bn.new _ _ _ _ ?_ ?_; (focus (first | omega | (simp; done) | (simp; omega))); decide) | with_reducible apply Bn.alloc | with_reducible apply Bn.drew | with_reducible apply Bn.set)))
                  have hl_C_W2 : wb.heap.size < W2.heap.size := by rw [← hW]; (first | omega | (simp; done) | (simp; omega))
                  have k_C_0_W2 : W2.cell? ⟨wb.heap.size, 0, none⟩ = some (.bool (decide ((q1).num < 0))) := by rw [← hW]; (first | with_reducible exact k_C_0 | (simp [go_sem, k_C_0]; done) | (simp [go_sem, k_C_0, hl_C]; done) | (go_simp; done) | (simp [go_sem, k_A_0, k_A_1, k_A_2, k_E_0, k_E_1, k_E_2, k_O_0, k_O_1, k_O_2, k_C_0, k_C_1, k_C_2, f_A, f_E, f_O, f_C, hl_A, hl_E, hl_O, hl_C]; done))
                  have k_C_1_W2 : W2.cell? ⟨wb.heap.size, 1, none⟩ = some (.slice rc (nlen (q1).num.natAbs) cc) := by rw [← hW]; (first | with_reducible exact k_C_1 | (simp [go_sem, k_C_1]; done) | (simp [go_sem, k_C_1, hl_C]; done) | (go_simp; done) | (simp [go_sem, k_A_0, k_A_1, k_A_2, k_E_0, k_E_1, k_E_2, k_O_0, k_O_1, k_O_2, k_C_0, k_C_1, k_C_2, f_A, f_E, f_O, f_C, hl_A, hl_E, hl_O, hl_C]; done))
                  have k_C_2_W2 : W2.cell? ⟨wb.heap.size, 2, none⟩ = some (.slice rc2 (nlen (q1).den) cc2) := by rw [← hW]; (first | with_reducible exact k_C_2 | (simp [go_sem, k_C_2]; done) | (simp [go_sem, k_C_2, hl_C]; done) | (go_simp; done) | (simp [go_sem, k_A_0, k_A_1, k_A_2, k_E_0, k_E_1, k_E_2, k_O_0, k_O_1, k_O_2, k_C_0, k_C_1, k_C_2, f_A, f_E, f_O, f_C, hl_A, hl_E, hl_O, hl_C]; done))
                  have f_C_W2 : ∀ o, W2.frozen? ⟨wb.heap.size, o, none⟩ = false := by intro o; rw [← hW]; (first | with_reducible exact f_C o | (simp [go_sem, f_C]; done) | (simp [go_sem, f_C, hl_C]; done) | (go_simp; done) | (simp [go_sem, k_A_0, k_A_1, k_A_2, k_E_0, k_E_1, k_E_2, k_O_0, k_O_1, k_O_2, k_C_0, k_C_1, k_C_2, f_A, f_E, f_O, f_C, hl_A, hl_E, hl_O, hl_C]; done))
                  have HX_C_W2 := Lib.hid (show Bn W2 (wb.heap.size) by rw [← hW]; (repeat' (first | with_reducible exact Kp.refl _ _ | with_reducible exact HX_A.out | with_reducible exact HX_E.out | with_reducible exact HX_O.out | with_reducible exact HX_C.out | with_reducible apply Kp.alloc | with_reducible apply Kp.drew | (with_reducible refine Kp.put ?_ ?_ ?_ _; rotate_left; (focus (first | omega | (simp; done) | (simp; omega))); rotate_left) | (with_reducible refine Bn.new _ _ _ _ ?_ ?_; (focus (first | omega | (simp; done) | (simp; omega))); decide) | with_reducible apply Bn.alloc | with_reducible apply Bn.drew | with_reducible apply Bn.set)))
                  have HK_W2 := Lib.hid (show Kp N wd W2 by rw [← hW]; (repeat' (first | with_reducible exact Kp.refl _ _ | with_reducible exact HX_A.out | with_reducible exact HX_E.out | with_reducible exact HX_O.out | with_reducible exact HX_C.out | with_reducible apply Kp.alloc | with_reducible apply Kp.drew | (with_reducible refine Kp.put ?_ ?_ ?_ _; rotate_left; (focus (first | omega | (simp; done) | (simp; omega))); rotate_left) | (with_reducible refine Bn.new _ _ _ _ ?_ ?_; (focus (first | omega | (simp; done) | (simp; omega))); decide) | with_reducible apply Bn.alloc | with_reducible apply Bn.drew | with_reducible apply Bn.set)))
                  have HX1_W2 := Lib.hid (HX1.out.keep HK_W2.out)
                  have HX2_W2 := Lib.hid (HX2.out.keep HK_W2.out)
                  have HR8_W2 := Lib.hid (HR8.out.keep HK_W2.out)
                  have HR9_W2 := Lib.hid (HR9.out.keep HK_W2.out)
                  have HC1_W2 := Lib.hid (HC1.out.keep HK_W2.out)
                  have HC2_W2 := Lib.hid (HC2.out.keep HK_W2.out)
                  have HD1_W2 := Lib.hid (HD1.out.keep HK_W2.out)
                  have HD2_W2 := Lib.hid (HD2.out.keep HK_W2.out)
                  have HB_W2 := Lib.hid (show Below w.heap.size w W2 by rw [← hW]; (repeat' (first | with_reducible exact Below.refl _ _ | with_reducible exact HB.out | (with_reducible refine Below.alloc ?_ ?_ _; rotate_left; (focus (first | omega | (simp; done) | (simp; omega)))) | with_reducible apply Below.drew | (with_reducible refine Below.setCell ?_ ?_ _; rotate_left; (focus (first | omega | (simp; done) | (simp; omega)))))))
                  clear hW HK_W2
                  clear hl_A f_A HX_A k_A_0 k_A_1 k_A_2 hl_E f_E HX_E k_E_0 k_E_1 k_E_2 hl_O f_O HX_O k_O_0 k_O_1 k_O_2 hl_C f_C HX_C k_C_0 k_C_1 k_C_2 HX1 HX2 HR8 HR9 HC1 HC2 HD1 HD2 HB hN hs0
                  have hN := hN_W2
                  have HB := HB_W2
                  have hs0 := hs0_W2
                  have hl_A := hl_A_W2
                  have f_A := f_A_W2
                  have HX_A := HX_A_W2
                  have k_A_0 := k_A_0_W2
                  have k_A_1 := k_A_1_W2
                  have k_A_2 := k_A_2_W2
                  have hl_E := hl_E_W2
                  have f_E := f_E_W2
                  have HX_E := HX_E_W2
                  have k_E_0 := k_E_0_W2
                  have k_E_1 := k_E_1_W2
                  have k_E_2 := k_E_2_W2
                  have hl_O := hl_O_W2
                  have f_O := f_O_W2
                  have HX_O := HX_O_W2
                  have k_O_0 := k_O_0_W2
                  have k_O_1 := k_O_1_W2
                  have k_O_2 := k_O_2_W2
                  have hl_C := hl_C_W2
                  have f_C := f_C_W2
                  have HX_C := HX_C_W2
                  have k_C_0 := k_C_0_W2
                  have k_C_1 := k_C_1_W2
                  have k_C_2 := k_C_2_W2
                  have HX1 := HX1_W2
                  have HX2 := HX2_W2
                  have HR8 := HR8_W2
                  have HR9 := HR9_W2
                  have HC1 := HC1_W2
                  have HC2 := HC2_W2
                  have HD1 := HD1_W2
                  have HD2 := HD2_W2
                  clear hN_W2 HB_W2 hs0_W2 hl_A_W2 f_A_W2 HX_A_W2 k_A_0_W2 k_A_1_W2 k_A_2_W2 hl_E_W2 f_E_W2 HX_E_W2 k_E_0_W2 k_E_1_W2 k_E_2_W2 hl_O_W2 f_O_W2 HX_O_W2 k_O_0_W2 k_O_1_W2 k_O_2_W2 hl_C_W2 f_C_W2 HX_C_W2 k_C_0_W2 k_C_1_W2 k_C_2_W2 HX1_W2 HX2_W2 HR8_W2 HR9_W2 HC1_W2 HC2_W2 HD1_W2 HD2_W2
                  refine (radd_any (N := N) _ _ _ _ _ _ _ _ _ _ _ _ _ _ 300 300 q9 q1 _ hN HR9.out (Rt.of_norm HC1.out HC2.out 300 (by have := HSZ1.out; omega)) (by omega) (by omega) q3 HQ3.out).mono ?_
                  rintro e we ⟨re, ce, re2, ce2, rfl, hn, hn', hb⟩
                  have hN_we : N ≤ we.heap.size := Nat.le_trans hN hb.size
                  have hs_we : W2.heap.size ≤ we.heap.size := hb.size
                  have hs0_we : w.heap.size ≤ we.heap.size := Nat.le_trans hs0 hb.size
                  have hl_A_we : g < we.heap.size := Nat.lt_of_lt_of_le hl_A hb.size
                  have k_A_0_we : we.cell? ⟨g, 0, none⟩ = some (.bool (decide ((p2).num < 0))) := (hb.cell (p := ⟨g, 0, none⟩) hl_A).trans k_A_0
                  have k_A_1_we : we.cell? ⟨g, 1, none⟩ = some (.slice rx (nlen (p2).num.natAbs) cx) := (hb.cell (p := ⟨g, 1, none⟩) hl_A).trans k_A_1
                  have k_A_2_we : we.cell? ⟨g, 2, none⟩ = some (.slice rx2 (nlen (p2).den) cx2) := (hb.cell (p := ⟨g, 2, none⟩) hl_A).trans k_A_2
                  have f_A_we : ∀ o, we.frozen? ⟨g, o, none⟩ = false := fun o => (hb.frozen (p := ⟨g, o, none⟩) hl_A).trans (f_A o)
                  have HX_A_we := Lib.hid (HX_A.out.below hb)
                  have hl_E_we : g + 1 < we.heap.size := Nat.lt_of_lt_of_le hl_E hb.size
                  have k_E_0_we : we.cell? ⟨g + 1, 0, none⟩ = some (.bool (decide ((q2).num < 0))) := (hb.cell (p := ⟨g + 1, 0, none⟩) hl_E).trans k_E_0
                  have k_E_1_we : we.cell? ⟨g + 1, 1, none⟩ = some (.slice rd (nlen (q2).num.natAbs) cd) := (hb.cell (p := ⟨g + 1, 1, none⟩) hl_E).trans k_E_1
                  have k_E_2_we : we.cell? ⟨g + 1, 2, none⟩ = some (.slice rd2 (nlen (q2).den) cd2) := (hb.cell (p := ⟨g + 1, 2, none⟩) hl_E).trans k_E_2
                  have f_E_we : ∀ o, we.frozen? ⟨g + 1, o, none⟩ = false := fun o => (hb.frozen (p := ⟨g + 1, o, none⟩) hl_E).trans (f_E o)
                  have HX_E_we := Lib.hid (HX_E.out.below hb)
                  have hl_O_we : g + 1 + 1 < we.heap.size := Nat.lt_of_lt_of_le hl_O hb.size
                  have k_O_0_we : we.cell? ⟨g + 1 + 1, 0, none⟩ = some (.bool s9) := (hb.cell (p := ⟨g + 1 + 1, 0, none⟩) hl_O).trans k_O_0
                  have k_O_1_we : we.cell? ⟨g + 1 + 1, 1, none⟩ = some (.slice a9 n9 c9) := (hb.cell (p := ⟨g + 1 + 1, 1, none⟩) hl_O).trans k_O_1
                  have k_O_2_we : we.cell? ⟨g + 1 + 1, 2, none⟩ = some (.slice d9 m9 e9) := (hb.cell (p := ⟨g + 1 + 1, 2, none⟩) hl_O).trans k_O_2
                  have f_O_we : ∀ o, we.frozen? ⟨g + 1 + 1, o, none⟩ = false := fun o => (hb.frozen (p := ⟨g + 1 + 1, o, none⟩) hl_O).trans (f_O o)
                  have HX_O_we := Lib.hid (HX_O.out.below hb)
                  have hl_C_we : wb.heap.size < we.heap.size := Nat.lt_of_lt_of_le hl_C hb.size
                  have k_C_0_we : we.cell? ⟨wb.heap.size, 0, none⟩ = some (.bool (decide ((q1).num < 0))) := (hb.cell (p := ⟨wb.heap.size, 0, none⟩) hl_C).trans k_C_0
                  have k_C_1_we : we.cell? ⟨wb.heap.size, 1, none⟩ = some (.slice rc (nlen (q1).num.natAbs) cc) := (hb.cell (p := ⟨wb.heap.size, 1, none⟩) hl_C).trans k_C_1
                  have k_C_2_we : we.cell? ⟨wb.heap.size, 2, none⟩ = some (.slice rc2 (nlen (q1).den) cc2) := (hb.cell (p := ⟨wb.heap.size, 2, none⟩) hl_C).trans k_C_2
                  have f_C_we : ∀ o, we.frozen? ⟨wb.heap.size, o, none⟩ = false := fun o => (hb.frozen (p := ⟨wb.heap.size, o, none⟩) hl_C).trans (f_C o)
                  have HX_C_we := Lib.hid (HX_C.out.below hb)
                  have HX1_we := Lib.hid (HX1.out.below hb)
                  have HX2_we := Lib.hid (HX2.out.below hb)
                  have HR8_we := Lib.hid (HR8.out.below hb)
                  have HR9_we := Lib.hid (HR9.out.below hb)
                  have HC1_we := Lib.hid (HC1.out.below hb)
                  have HC2_we := Lib.hid (HC2.out.below hb)
                  have HD1_we := Lib.hid (HD1.out.below hb)
                  have HD2_we := Lib.hid (HD2.out.below hb)
                  have HB_we := Lib.hid (HB.out.trans (hb.mono hs0))
                  clear hb
                  clear hl_A f_A HX_A k_A_0 k_A_1 k_A_2 hl_E f_E HX_E k_E_0 k_E_1 k_E_2 hl_O f_O HX_O k_O_0 k_O_1 k_O_2 hl_C f_C HX_C k_C_0 k_C_1 k_C_2 HX1 HX2 HR8 HR9 HC1 HC2 HD1 HD2 HB hN hs0
                  have hN := hN_we
                  have HB := HB_we
                  have hs0 := hs0_we
                  have hl_A := hl_A_we
                  have f_A := f_A_we
                  have HX_A := HX_A_we
                  have k_A_0 := k_A_0_we
                  have k_A_1 := k_A_1_we
                  have k_A_2 := k_A_2_we
                  have hl_E := hl_E_we
                  have f_E := f_E_we
                  have HX_E := HX_E_we
                  have k_E_0 := k_E_0_we
                  have k_E_1 := k_E_1_we
                  have k_E_2 := k_E_2_we
                  have hl_O := hl_O_we
                  have f_O := f_O_we
                  have HX_O := HX_O_we
                  have k_O_0 := k_O_0_we
                  have k_O_1 := k_O_1_we
                  have k_O_2 := k_O_2_we
                  have hl_C := hl_C_we
                  have f_C := f_C_we
                  have HX_C := HX_C_we
                  have k_C_0 := k_C_0_we
                  have k_C_1 := k_C_1_we
                  have k_C_2 := k_C_2_we
                  have HX1 := HX1_we
                  have HX2 := HX2_we
                  have HR8 := HR8_we
                  have HR9 := HR9_we
                  have HC1 := HC1_we
                  have HC2 := HC2_we
                  have HD1 := HD1_we
                  have HD2 := HD2_we
                  clear hN_we HB_we hs0_we hl_A_we f_A_we HX_A_we k_A_0_we k_A_1_we k_A_2_we hl_E_we f_E_we HX_E_we k_E_0_we k_E_1_we k_E_2_we hl_O_we f_O_we HX_O_we k_O_0_we k_O_1_we k_O_2_we hl_C_we f_C_we HX_C_we k_C_0_we k_C_1_we k_C_2_we HX1_we HX2_we HR8_we HR9_we HC1_we HC2_we HD1_we HD2_we
                  have HE1 := Lib.hid hn
                  clear hn
                  have HE2 := Lib.hid hn'
                  clear hn'
                  go_wp2_with fail
                  go_roundw
                  case rel =>
                    refine ⟨k + 1, by omega, by go_num, ⟨rx, cx, rx2, cx2, ⟨by first | omega | (simp; done) | (simp; omega), by (repeat' (first | with_reducible exact Kp.refl _ _ | with_reducible exact HX_A.out | with_reducible exact HX_E.out | with_reducible exact HX_O.out | with_reducible exact HX_C.out | with_reducible apply Kp.alloc | with_reducible apply Kp.drew | (with_reducible refine Kp.put ?_ ?_ ?_ _; rotate_left; (focus (first | omega | (simp; done) | (simp; omega))); rotate_left) | (with_reducible refine Bn.new _ _ _ _ ?_ ?_; (focus (first | omega | (simp; done) | (simp; omega))); decide) | with_reducible apply Bn.alloc | with_reducible apply Bn.drew | with_reducible apply Bn.set)), fun o => by first | with_reducible exact f_A o | (simp [go_sem, f_A]; done) | (simp [go_sem, f_A, hl_A]; done) | (go_simp; done) | (simp; done) | (simp [go_sem]; done) | (simp [go_sem, k_A_0, k_A_1, k_A_2, k_E_0, k_E_1, k_E_2, k_O_0, k_O_1, k_O_2, k_C_0, k_C_1, k_C_2, f_A, f_E, f_O, f_C, hl_A, hl_E, hl_O, hl_C]; done), by first | with_reducible assumption | (simp [go_sem, k_A_0]; done) | (simp [go_sem, k_A_0, hl_A]; done) | (go_simp; done) | (simp; done) | (simp [go_sem]; done) | (simp [go_sem, k_A_0, k_A_1, k_A_2, k_E_0, k_E_1, k_E_2, k_O_0, k_O_1, k_O_2, k_C_0, k_C_1, k_C_2, f_A, f_E, f_O, f_C, hl_A, hl_E, hl_O, hl_C]; done), by first | with_reducible assumption | (simp [go_sem, k_A_1]; done) | (simp [go_sem, k_A_1, hl_A]; done) | (go_simp; done) | (simp; done) | (simp [go_sem]; done) | (simp [go_sem, k_A_0, k_A_1, k_A_2, k_E_0, k_E_1, k_E_2, k_O_0, k_O_1, k_O_2, k_C_0, k_C_1, k_C_2, f_A, f_E, f_O, f_C, hl_A, hl_E, hl_O, hl_C]; done), by first | with_reducible assumption | (simp [go_sem, k_A_2]; done) | (simp [go_sem, k_A_2, hl_A]; done) | (go_simp; done) | (simp; done) | (simp [go_sem]; done) | (simp [go_sem, k_A_0, k_A_1, k_A_2, k_E_0, k_E_1, k_E_2, k_O_0, k_O_1, k_O_2, k_C_0, k_C_1, k_C_2, f_A, f_E, f_O, f_C, hl_A, hl_E, hl_O, hl_C]; done)⟩, HX1.out.keep ?_, HX2.out.keep ?_⟩, ⟨decide ((q2).num < 0), rd, nlen (q2).num.natAbs, cd, rd2, nlen (q2).den, cd2, ⟨by first | omega | (simp; done) | (simp; omega), by (repeat' (first | with_reducible exact Kp.refl _ _ | with_reducible exact HX_A.out | with_reducible exact HX_E.out | with_reducible exact HX_O.out | with_reducible exact HX_C.out | with_reducible apply Kp.alloc | with_reducible apply Kp.drew | (with_reducible refine Kp.put ?_ ?_ ?_ _; rotate_left; (focus (first | omega | (simp; done) | (simp; omega))); rotate_left) | (with_reducible refine Bn.new _ _ _ _ ?_ ?_; (focus (first | omega | (simp; done) | (simp; omega))); decide) | with_reducible apply Bn.alloc | with_reducible apply Bn.drew | with_reducible apply Bn.set)), fun o => by first | with_reducible exact f_E o | (simp [go_sem, f_E]; done) | (simp [go_sem, f_E, hl_E]; done) | (go_simp; done) | (simp; done) | (simp [go_sem]; done) | (simp [go_sem, k_A_0, k_A_1, k_A_2, k_E_0, k_E_1, k_E_2, k_O_0, k_O_1, k_O_2, k_C_0, k_C_1, k_C_2, f_A, f_E, f_O, f_C, hl_A, hl_E, hl_O, hl_C]; done), by first | with_reducible assumption | (simp [go_sem, k_E_0]; done) | (simp [go_sem, k_E_0, hl_E]; done) | (go_simp; done) | (simp; done) | (simp [go_sem]; done) | (simp [go_sem, k_A_0, k_A_1, k_A_2, k_E_0, k_E_1, k_E_2, k_O_0, k_O_1, k_O_2, k_C_0, k_C_1, k_C_2, f_A, f_E, f_O, f_C, hl_A, hl_E, hl_O, hl_C]; done), by first | with_reducible assumption | (simp [go_sem, k_E_1]; done) | (simp [go_sem, k_E_1, hl_E]; done) | (go_simp; done) | (simp; done) | (simp [go_sem]; done) | (simp [go_sem, k_A_0, k_A_1, k_A_2, k_E_0, k_E_1, k_E_2, k_O_0, k_O_1, k_O_2, k_C_0, k_C_1, k_C_2, f_A, f_E, f_O, f_C, hl_A, hl_E, hl_O, hl_C]; done), by first | with_reducible assumption | (simp [go_sem, k_E_2]; done) | (simp [go_sem, k_E_2, hl_E]; done) | (go_simp; done) | (simp; done) | (simp [go_sem]; done) | (simp [go_sem, k_A_0, k_A_1, k_A_2, k_E_0, k_E_1, k_E_2, k_O_0, k_O_1, k_O_2, k_C_0, k_C_1, k_C_2, f_A, f_E, f_O, f_C, hl_A, hl_E, hl_O, hl_C]; done)⟩, ?_⟩, ⟨decide ((q3).num < 0), re, nlen (q3).num.natAbs, ce, re2, nlen (q3).den, ce2, ⟨by first | omega | (simp; done) | (simp; omega), by (repeat' (first | with_reducible exact Kp.refl _ _ | with_reducible exact HX_A.out | with_reducible exact HX_E.out | with_reducible exact HX_O.out | with_reducible exact HX_C.out | with_reducible apply Kp.alloc | with_reducible apply Kp.drew | (with_reducible refine Kp.put ?_ ?_ ?_ _; rotate_left; (focus (first | omega | (simp; done) | (simp; omega))); rotate_left) | (with_reducible refine Bn.new _ _ _ _ ?_ ?_; (focus (first | omega | (simp; done) | (simp; omega))); decide) | with_reducible apply Bn.alloc | with_reducible apply Bn.drew | with_reducible apply Bn.set)), fun o => by first | with_reducible exact f_O o | (simp [go_sem, f_O]; done) | (simp [go_sem, f_O, hl_O]; done) | (go_simp; done) | (simp; done) | (simp [go_sem]; done) | (simp [go_sem, k_A_0, k_A_1, k_A_2, k_E_0, k_E_1, k_E_2, k_O_0, k_O_1, k_O_2, k_C_0, k_C_1, k_C_2, f_A, f_E, f_O, f_C, hl_A, hl_E, hl_O, hl_C]; done), by first | with_reducible assumption | (simp [go_sem, k_O_0]; done) | (simp [go_sem, k_O_0, hl_O]; done) | (go_simp; done) | (simp; done) | (simp [go_sem]; done) | (simp [go_sem, k_A_0, k_A_1, k_A_2, k_E_0, k_E_1, k_E_2, k_O_0, k_O_1, k_O_2, k_C_0, k_C_1, k_C_2, f_A, f_E, f_O, f_C, hl_A, hl_E, hl_O, hl_C]; done), by first | with_reducible assumption | (simp [go_sem, k_O_1]; done) | (simp [go_sem, k_O_1, hl_O]; done) | (go_simp; done) | (simp; done) | (simp [go_sem]; done) | (simp [go_sem, k_A_0, k_A_1, k_A_2, k_E_0, k_E_1, k_E_2, k_O_0, k_O_1, k_O_2, k_C_0, k_C_1, k_C_2, f_A, f_E, f_O, f_C, hl_A, hl_E, hl_O, hl_C]; done), by first | with_reducible assumption | (simp [go_sem, k_O_2]; done) | (simp [go_sem, k_O_2, hl_O]; done) | (go_simp; done) | (simp; done) | (simp [go_sem]; done) | (simp [go_sem, k_A_0, k_A_1, k_A_2, k_E_0, k_E_1, k_E_2, k_O_0, k_O_1, k_O_2, k_C_0, k_C_1, k_C_2, f_A, f_E, f_O, f_C, hl_A, hl_E, hl_O, hl_C]; done)⟩, ?_⟩, ?_⟩
                    · (repeat' (first | with_reducible exact Kp.refl _ _ | with_reducible exact HX_A.out | with_reducible exact HX_E.out | with_reducible exact HX_O.out | with_reducible exact HX_C.out | with_reducible apply Kp.alloc | with_reducible apply Kp.drew | (with_reducible refine Kp.put ?_ ?_ ?_ _; rotate_left; (focus (first | omega | (simp; done) | (simp; omega))); rotate_left) | (with_reducible refine Bn.new _ _ _ _ ?_ ?_; (focus (first | omega | (simp; done) | (simp; omega))); decide) | with_reducible apply Bn.alloc | with_reducible apply Bn.drew | with_reducible apply Bn.set))
                    · (repeat' (first | with_reducible exact Kp.refl _ _ | with_reducible exact HX_A.out | with_reducible exact HX_E.out | with_reducible exact HX_O.out | with_reducible exact HX_C.out | with_reducible apply Kp.alloc | with_reducible apply Kp.drew | (with_reducible refine Kp.put ?_ ?_ ?_ _; rotate_left; (focus (first | omega | (simp; done) | (simp; omega))); rotate_left) | (with_reducible refine Bn.new _ _ _ _ ?_ ?_; (focus (first | omega | (simp; done) | (simp; omega))); decide) | with_reducible apply Bn.alloc | with_reducible apply Bn.drew | with_reducible apply Bn.set))
                    · rw [HQE.out]; refine Rt.of_norm (HD1.out.keep ?_) (HD2.out.keep ?_) 300 HSZ2.out <;> (repeat' (first | with_reducible exact Kp.refl _ _ | with_reducible exact HX_A.out | with_reducible exact HX_E.out | with_reducible exact HX_O.out | with_reducible exact HX_C.out | with_reducible apply Kp.alloc | with_reducible apply Kp.drew | (with_reducible refine Kp.put ?_ ?_ ?_ _; rotate_left; (focus (first | omega | (simp; done) | (simp; omega))); rotate_left) | (with_reducible refine Bn.new _ _ _ _ ?_ ?_; (focus (first | omega | (simp; done) | (simp; omega))); decide) | with_reducible apply Bn.alloc | with_reducible apply Bn.drew | with_reducible apply Bn.set))
                    · rw [HQO.out]; refine Rt.of_norm (HE1.out.keep ?_) (HE2.out.keep ?_) 300 HSZ3.out <;> (repeat' (first | with_reducible exact Kp.refl _ _ | with_reducible exact HX_A.out | with_reducible exact HX_E.out | with_reducible exact HX_O.out | with_reducible exact HX_C.out | with_reducible apply Kp.alloc | with_reducible apply Kp.drew | (with_reducible refine Kp.put ?_ ?_ ?_ _; rotate_left; (focus (first | omega | (simp; done) | (simp; omega))); rotate_left) | (with_reducible refine Bn.new _ _ _ _ ?_ ?_; (focus (first | omega | (simp; done) | (simp; omega))); decide) | with_reducible apply Bn.alloc | with_reducible apply Bn.drew | with_reducible apply Bn.set))
                    · (repeat' (first | with_reducible exact Below.refl _ _ | with_reducible exact HB.out | (with_reducible refine Below.alloc ?_ ?_ _; rotate_left; (focus (first | omega | (simp; done) | (simp; omega)))) | with_reducible apply Below.drew | (with_reducible refine Below.setCell ?_ ?_ _; rotate_left; (focus (first | omega | (simp; done) | (simp; omega))))))
                  case measure => simp [intOf]; omega
                · have hkj2 : ((k : Int) == (j : Int)) = false := by simp; omega
                  go_wp2_with fail
                  go_roundw
                  case rel =>
                    refine ⟨j + 1, by omega, by go_num, ⟨rx, cx, rx2, cx2, ⟨by first | omega | (simp; done) | (simp; omega), by (repeat' (first | with_reducible exact Kp.refl _ _ | with_reducible exact HX_A.out | with_reducible exact HX_E.out | with_reducible exact HX_O.out | with_reducible exact HX_C.out | with_reducible apply Kp.alloc | with_reducible apply Kp.drew | (with_reducible refine Kp.put ?_ ?_ ?_ _; rotate_left; (focus (first | omega | (simp; done) | (simp; omega))); rotate_left) | (with_reducible refine Bn.new _ _ _ _ ?_ ?_; (focus (first | omega | (simp; done) | (simp; omega))); decide) | with_reducible apply Bn.alloc | with_reducible apply Bn.drew | with_reducible apply Bn.set)), fun o => by first | with_reducible exact f_A o | (simp [go_sem, f_A]; done) | (simp [go_sem, f_A, hl_A]; done) | (go_simp; done) | (simp; done) | (simp [go_sem]; done) | (simp [go_sem, k_A_0, k_A_1, k_A_2, k_E_0, k_E_1, k_E_2, k_O_0, k_O_1, k_O_2, k_C_0, k_C_1, k_C_2, f_A, f_E, f_O, f_C, hl_A, hl_E, hl_O, hl_C]; done), by first | with_reducible assumption | (simp [go_sem, k_A_0]; done) | (simp [go_sem, k_A_0, hl_A]; done) | (go_simp; done) | (simp; done) | (simp [go_sem]; done) | (simp [go_sem, k_A_0, k_A_1, k_A_2, k_E_0, k_E_1, k_E_2, k_O_0, k_O_1, k_O_2, k_C_0, k_C_1, k_C_2, f_A, f_E, f_O, f_C, hl_A, hl_E, hl_O, hl_C]; done), by first | with_reducible assumption | (simp [go_sem, k_A_1]; done) | (simp [go_sem, k_A_1, hl_A]; done) | (go_simp; done) | (simp; done) | (simp [go_sem]; done) | (simp [go_sem, k_A_0, k_A_1, k_A_2, k_E_0, k_E_1, k_E_2, k_O_0, k_O_1, k_O_2, k_C_0, k_C_1, k_C_2, f_A, f_E, f_O, f_C, hl_A, hl_E, hl_O, hl_C]; done), by first | with_reducible assumption | (simp [go_sem, k_A_2]; done) | (simp [go_sem, k_A_2, hl_A]; done) | (go_simp; done) | (simp; done) | (simp [go_sem]; done) | (simp [go_sem, k_A_0, k_A_1, k_A_2, k_E_0, k_E_1, k_E_2, k_O_0, k_O_1, k_O_2, k_C_0, k_C_1, k_C_2, f_A, f_E, f_O, f_C, hl_A, hl_E, hl_O, hl_C]; done)⟩, HX1.out.keep ?_, HX2.out.keep ?_⟩, ⟨decide ((q2).num < 0), rd, nlen (q2).num.natAbs, cd, rd2, nlen (q2).den, cd2, ⟨by first | omega | (simp; done) | (simp; omega), by (repeat' (first | with_reducible exact Kp.refl _ _ | with_reducible exact HX_A.out | with_reducible exact HX_E.out | with_reducible exact HX_O.out | with_reducible exact HX_C.out | with_reducible apply Kp.alloc | with_reducible apply Kp.drew | (with_reducible refine Kp.put ?_ ?_ ?_ _; rotate_left; (focus (first | omega | (simp; done) | (simp; omega))); rotate_left) | (with_reducible refine Bn.new _ _ _ _ ?_ ?_; (focus (first | omega | (simp; done) | (simp; omega))); decide) | with_reducible apply Bn.alloc | with_reducible apply Bn.drew | with_reducible apply Bn.set)), fun o => by first | with_reducible exact f_E o | (simp [go_sem, f_E]; done) | (simp [go_sem, f_E, hl_E]; done) | (go_simp; done) | (simp; done) | (simp [go_sem]; done) | (simp [go_sem, k_A_0, k_A_1, k_A_2, k_E_0, k_E_1, k_E_2, k_O_0, k_O_1, k_O_2, k_C_0, k_C_1, k_C_2, f_A, f_E, f_O, f_C, hl_A, hl_E, hl_O, hl_C]; done), by first | with_reducible assumption | (simp [go_sem, k_E_0]; done) | (simp [go_sem, k_E_0, hl_E]; done) | (go_simp; done) | (simp; done) | (simp [go_sem]; done) | (simp [go_sem, k_A_0, k_A_1, k_A_2, k_E_0, k_E_1, k_E_2, k_O_0, k_O_1, k_O_2, k_C_0, k_C_1, k_C_2, f_A, f_E, f_O, f_C, hl_A, hl_E, hl_O, hl_C]; done), by first | with_reducible assumption | (simp [go_sem, k_E_1]; done) | (simp [go_sem, k_E_1, hl_E]; done) | (go_simp; done) | (simp; done) | (simp [go_sem]; done) | (simp [go_sem, k_A_0, k_A_1, k_A_2, k_E_0, k_E_1, k_E_2, k_O_0, k_O_1, k_O_2, k_C_0, k_C_1, k_C_2, f_A, f_E, f_O, f_C, hl_A, hl_E, hl_O, hl_C]; done), by first | with_reducible assumption | (simp [go_sem, k_E_2]; done) | (simp [go_sem, k_E_2, hl_E]; done) | (go_simp; done) | (simp; done) | (simp [go_sem]; done) | (simp [go_sem, k_A_0, k_A_1, k_A_2, k_E_0, k_E_1, k_E_2, k_O_0, k_O_1, k_O_2, k_C_0, k_C_1, k_C_2, f_A, f_E, f_O, f_C, hl_A, hl_E, hl_O, hl_C]; done)⟩, ?_⟩, ⟨s9, a9, n9, c9, d9, m9, e9, ⟨by first | omega | (simp; done) | (simp; omega), by (repeat' (first | with_reducible exact Kp.refl _ _ | with_reducible exact HX_A.out | with_reducible exact HX_E.out | with_reducible exact HX_O.out | with_reducible exact HX_C.out | with_reducible apply Kp.alloc | with_reducible apply Kp.drew | (with_reducible refine Kp.put ?_ ?_ ?_ _; rotate_left; (focus (first | omega | (simp; done) | (simp; omega))); rotate_left) | (with_reducible refine Bn.new _ _ _ _ ?_ ?_; (focus (first | omega | (simp; done) | (simp; omega))); decide) | with_reducible apply Bn.alloc | with_reducible apply Bn.drew | with_reducible apply Bn.set)), fun o => by first | with_reducible exact f_O o | (simp [go_sem, f_O]; done) | (simp [go_sem, f_O, hl_O]; done) | (go_simp; done) | (simp; done) | (simp [go_sem]; done) | (simp [go_sem, k_A_0, k_A_1, k_A_2, k_E_0, k_E_1, k_E_2, k_O_0, k_O_1, k_O_2, k_C_0, k_C_1, k_C_2, f_A, f_E, f_O, f_C, hl_A, hl_E, hl_O, hl_C]; done), by first | with_reducible assumption | (simp [go_sem, k_O_0]; done) | (simp [go_sem, k_O_0, hl_O]; done) | (go_simp; done) | (simp; done) | (simp [go_sem]; done) | (simp [go_sem, k_A_0, k_A_1, k_A_2, k_E_0, k_E_1, k_E_2, k_O_0, k_O_1, k_O_2, k_C_0, k_C_1, k_C_2, f_A, f_E, f_O, f_C, hl_A, hl_E, hl_O, hl_C]; done), by first | with_reducible assumption | (simp [go_sem, k_O_1]; done) | (simp [go_sem, k_O_1, hl_O]; done) | (go_simp; done) | (simp; done) | (simp [go_sem]; done) | (simp [go_sem, k_A_0, k_A_1, k_A_2, k_E_0, k_E_1, k_E_2, k_O_0, k_O_1, k_O_2, k_C_0, k_C_1, k_C_2, f_A, f_E, f_O, f_C, hl_A, hl_E, hl_O, hl_C]; done), by first | with_reducible assumption | (simp [go_sem, k_O_2]; done) | (simp [go_sem, k_O_2, hl_O]; done) | (go_simp; done) | (simp; done) | (simp [go_sem]; done) | (simp [go_sem, k_A_0, k_A_1, k_A_2, k_E_0, k_E_1, k_E_2, k_O_0, k_O_1, k_O_2, k_C_0, k_C_1, k_C_2, f_A, f_E, f_O, f_C, hl_A, hl_E, hl_O, hl_C]; done)⟩, ?_⟩, ?_⟩
                    · (repeat' (first | with_reducible exact Kp.refl _ _ | with_reducible exact HX_A.out | with_reducible exact HX_E.out | with_reducible exact HX_O.out | with_reducible exact HX_C.out | with_reducible apply Kp.alloc | with_reducible apply Kp.drew | (with_reducible refine Kp.put ?_ ?_ ?_ _; rotate_left; (focus (first | omega | (simp; done) | (simp; omega))); rotate_left) | (with_reducible refine Bn.new _ _ _ _ ?_ ?_; (focus (first | omega | (simp; done) | (simp; omega))); decide) | with_reducible apply Bn.alloc | with_reducible apply Bn.drew | with_reducible apply Bn.set))
                    · (repeat' (first | with_reducible exact Kp.refl _ _ | with_reducible exact HX_A.out | with_reducible exact HX_E.out | with_reducible exact HX_O.out | with_reducible exact HX_C.out | with_reducible apply Kp.alloc | with_reducible apply Kp.drew | (with_reducible refine Kp.put ?_ ?_ ?_ _; rotate_left; (focus (first | omega | (simp; done) | (simp; omega))); rotate_left) | (with_reducible refine Bn.new _ _ _ _ ?_ ?_; (focus (first | omega | (simp; done) | (simp; omega))); decide) | with_reducible apply Bn.alloc | with_reducible apply Bn.drew | with_reducible apply Bn.set))
                    · rw [HQE.out]; refine Rt.of_norm (HD1.out.keep ?_) (HD2.out.keep ?_) 300 HSZ2.out <;> (repeat' (first | with_reducible exact Kp.refl _ _ | with_reducible exact HX_A.out | with_reducible exact HX_E.out | with_reducible exact HX_O.out | with_reducible exact HX_C.out | with_reducible apply Kp.alloc | with_reducible apply Kp.drew | (with_reducible refine Kp.put ?_ ?_ ?_ _; rotate_left; (focus (first | omega | (simp; done) | (simp; omega))); rotate_left) | (with_reducible refine Bn.new _ _ _ _ ?_ ?_; (focus (first | omega | (simp; done) | (simp; omega))); decide) | with_reducible apply Bn.alloc | with_reducible apply Bn.drew | with_reducible apply Bn.set))
                    · rw [ownQ_next _ _ _ _ hkj, HQ9.out]; exact HR9.out.keep (by (repeat' (first | with_reducible exact Kp.refl _ _ | with_reducible exact HX_A.out | with_reducible exact HX_E.out | with_reducible exact HX_O.out | with_reducible exact HX_C.out | with_reducible apply Kp.alloc | with_reducible apply Kp.drew | (with_reducible refine Kp.put ?_ ?_ ?_ _; rotate_left; (focus (first | omega | (simp; done) | (simp; omega))); rotate_left) | (with_reducible refine Bn.new _ _ _ _ ?_ ?_; (focus (first | omega | (simp; done) | (simp; omega))); decide) | with_reducible apply Bn.alloc | with_reducible apply Bn.drew | with_reducible apply Bn.set)))
                    · (repeat' (first | with_reducible exact Below.refl _ _ | with_reducible exact HB.out | (with_reducible refine Below.alloc ?_ ?_ _; rotate_left; (focus (first | omega | (simp; done) | (simp; omega)))) | with_reducible apply Below.drew | (with_reducible refine Below.setCell ?_ ?_ _; rotate_left; (focus (first | omega | (simp; done) | (simp; omega))))))
                  case measure => simp [intOf]; omega
          · obtain rfl : K = j := by omega
            go_wp2_with fail
            go_roundw
            case rel =>
              refine ⟨k + 1, by omega, by go_num, ?_⟩
              have e : ownQ z n k K = itm z n (k + 1) := by unfold ownQ; rw [if_pos hkK]
              rw [e] at hinv
              exact hinv
            case measure => simp [intOf]; omega
      · obtain rfl : K = k := by omega
        rw [HV8.out, HV9.out] at hinv
        obtain ⟨⟨rx, cx, rx2, cx2, hA, hx1, hx2⟩, ⟨s8, a8, n8, c8, d8, m8, e8, hE, hr8⟩, ⟨s9, a9, n9, c9, d9, m9, e9, hO, hr9⟩, hbel⟩ := hinv
        obtain ⟨hl_A, bn_A, f_A, k_A_0, k_A_1, k_A_2⟩ := hA
        have HX_A := Lib.hid bn_A
        clear bn_A
        obtain ⟨hl_E, bn_E, f_E, k_E_0, k_E_1, k_E_2⟩ := hE
        have HX_E := Lib.hid bn_E
        clear bn_E
        obtain ⟨hl_O, bn_O, f_O, k_O_0, k_O_1, k_O_2⟩ := hO
        have HX_O := Lib.hid bn_O
        clear bn_O
        have HX1 := Lib.hid hx1
        have HX2 := Lib.hid hx2
        have HR8 := Lib.hid hr8
        have HR9 := Lib.hid hr9
        have hs0 := hbel.size
        have hN : N ≤ wr.heap.size := by omega
        have HB := Lib.hid hbel
        clear hx1 hx2 hr8 hr9 hbel
        go_wp2_with fail
        refine (rof_any (N := N) 1 1 _ hN (by omega) (by omega) (by omega) (by omega) po HPo.out).mono ?_
        rintro e wa2 ⟨ro, co, ro2, co2, rfl, hn, hn', hb⟩
        have hN_wa2 : N ≤ wa2.heap.size := Nat.le_trans hN hb.size
        have hs_wa2 : wr.heap.size ≤ wa2.heap.size := hb.size
        have hs0_wa2 : w.heap.size ≤ wa2.heap.size := Nat.le_trans hs0 hb.size
        have hl_A_wa2 : g < wa2.heap.size := Nat.lt_of_lt_of_le hl_A hb.size
        have k_A_0_wa2 : wa2.cell? ⟨g, 0, none⟩ = some (.bool (decide ((p2).num < 0))) := (hb.cell (p := ⟨g, 0, none⟩) hl_A).trans k_A_0
        have k_A_1_wa2 : wa2.cell? ⟨g, 1, none⟩ = some (.slice rx (nlen (p2).num.natAbs) cx) := (hb.cell (p := ⟨g, 1, none⟩) hl_A).trans k_A_1
        have k_A_2_wa2 : wa2.cell? ⟨g, 2, none⟩ = some (.slice rx2 (nlen (p2).den) cx2) := (hb.cell (p := ⟨g, 2, none⟩) hl_A).trans k_A_2
        have f_A_wa2 : ∀ o, wa2.frozen? ⟨g, o, none⟩ = false := fun o => (hb.frozen (p := ⟨g, o, none⟩) hl_A).trans (f_A o)
        have HX_A_wa2 := Lib.hid (HX_A.out.below hb)
        have hl_E_wa2 : g + 1 < wa2.heap.size := Nat.lt_of_lt_of_le hl_E hb.size
        have k_E_0_wa2 : wa2.cell? ⟨g + 1, 0, none⟩ = some (.bool s8) := (hb.cell (p := ⟨g + 1, 0, none⟩) hl_E).trans k_E_0
        have k_E_1_wa2 : wa2.cell? ⟨g + 1, 1, none⟩ = some (.slice a8 n8 c8) := (hb.cell (p := ⟨g + 1, 1, none⟩) hl_E).trans k_E_1
        have k_E_2_wa2 : wa2.cell? ⟨g + 1, 2, none⟩ = some (.slice d8 m8 e8) := (hb.cell (p := ⟨g + 1, 2, none⟩) hl_E).trans k_E_2
        have f_E_wa2 : ∀ o, wa2.frozen? ⟨g + 1, o, none⟩ = false := fun o => (hb.frozen (p := ⟨g + 1, o, none⟩) hl_E).trans (f_E o)
        have HX_E_wa2 := Lib.hid (HX_E.out.below hb)
        have hl_O_wa2 : g + 1 + 1 < wa2.heap.size := Nat.lt_of_lt_of_le hl_O hb.size
        have k_O_0_wa2 : wa2.cell? ⟨g + 1 + 1, 0, none⟩ = some (.bool s9) := (hb.cell (p := ⟨g + 1 + 1, 0, none⟩) hl_O).trans k_O_0
        have k_O_1_wa2 : wa2.cell? ⟨g + 1 + 1, 1, none⟩ = some (.slice a9 n9 c9) := (hb.cell (p := ⟨g + 1 + 1, 1, none⟩) hl_O).trans k_O_1
        have k_O_2_wa2 : wa2.cell? ⟨g + 1 + 1, 2, none⟩ = some (.slice d9 m9 e9) := (hb.cell (p := ⟨g + 1 + 1, 2, none⟩) hl_O).trans k_O_2
        have f_O_wa2 : ∀ o, wa2.frozen? ⟨g + 1 + 1, o, none⟩ = false := fun o => (hb.frozen (p := ⟨g + 1 + 1, o, none⟩) hl_O).trans (f_O o)
        have HX_O_wa2 := Lib.hid (HX_O.out.below hb)
        have HX1_wa2 := Lib.hid (HX1.out.below hb)
        have HX2_wa2 := Lib.hid (HX2.out.below hb)
        have HR8_wa2 := Lib.hid (HR8.out.below hb)
        have HR9_wa2 := Lib.hid (HR9.out.below hb)
        have HB_wa2 := Lib.hid (HB.out.trans (hb.mono hs0))
        clear hb
        clear hl_A f_A HX_A k_A_0 k_A_1 k_A_2 hl_E f_E HX_E k_E_0 k_E_1 k_E_2 hl_O f_O HX_O k_O_0 k_O_1 k_O_2 HX1 HX2 HR8 HR9 HB hN hs0
        have hN := hN_wa2
        have HB := HB_wa2
        have hs0 := hs0_wa2
        have hl_A := hl_A_wa2
        have f_A := f_A_wa2
        have HX_A := HX_A_wa2
        have k_A_0 := k_A_0_wa2
        have k_A_1 := k_A_1_wa2
        have k_A_2 := k_A_2_wa2
        have hl_E := hl_E_wa2
        have f_E := f_E_wa2
        have HX_E := HX_E_wa2
        have k_E_0 := k_E_0_wa2
        have k_E_1 := k_E_1_wa2
        have k_E_2 := k_E_2_wa2
        have hl_O := hl_O_wa2
        have f_O := f_O_wa2
        have HX_O := HX_O_wa2
        have k_O_0 := k_O_0_wa2
        have k_O_1 := k_O_1_wa2
        have k_O_2 := k_O_2_wa2
        have HX1 := HX1_wa2
        have HX2 := HX2_wa2
        have HR8 := HR8_wa2
        have HR9 := HR9_wa2
        clear hN_wa2 HB_wa2 hs0_wa2 hl_A_wa2 f_A_wa2 HX_A_wa2 k_A_0_wa2 k_A_1_wa2 k_A_2_wa2 hl_E_wa2 f_E_wa2 HX_E_wa2 k_E_0_wa2 k_E_1_wa2 k_E_2_wa2 hl_O_wa2 f_O_wa2 HX_O_wa2 k_O_0_wa2 k_O_1_wa2 k_O_2_wa2 HX1_wa2 HX2_wa2 HR8_wa2 HR9_wa2
        have HO1 := Lib.hid hn
        have HO2 := Lib.hid hn'
        clear hn hn'
        go_wp2_with fail
        refine calls_name fun W3 hW => ?_
        have hN_W3 : N ≤ W3.heap.size := by rw [← hW]; (first | omega | (simp; done) | (simp; omega))
        have hs_W3 : wa2.heap.size ≤ W3.heap.size := by rw [← hW]; (first | omega | (simp; done) | (simp; omega))
        have hs0_W3 : w.heap.size ≤ W3.heap.size := by rw [← hW]; (first | omega | (simp; done) | (simp; omega))
        have hd_A_N1 : g < wa2.heap.size := by omega
        have hd_E_N1 : g + 1 < wa2.heap.size := by omega
        have hd_O_N1 : g + 1 + 1 < wa2.heap.size := by omega
        have hl_A_W3 : g < W3.heap.size := by rw [← hW]; (first | omega | (simp; done) | (simp; omega))
        have k_A_0_W3 : W3.cell? ⟨g, 0, none⟩ = some (.bool (decide ((p2).num < 0))) := by rw [← hW]; (first | with_reducible exact k_A_0 | (simp [go_sem, k_A_0]; done) | (simp [go_sem, k_A_0, hl_A]; done) | (go_simp; done) | (simp [go_sem, k_A_0, k_A_1, k_A_2, k_E_0, k_E_1, k_E_2, k_O_0, k_O_1, k_O_2, f_A, f_E, f_O, hl_A, hl_E, hl_O]; done))
        have k_A_1_W3 : W3.cell? ⟨g, 1, none⟩ = some (.slice rx (nlen (p2).num.natAbs) cx) := by rw [← hW]; (first | with_reducible exact k_A_1 | (simp [go_sem, k_A_1]; done) | (simp [go_sem, k_A_1, hl_A]; done) | (go_simp; done) | (simp [go_sem, k_A_0, k_A_1, k_A_2, k_E_0, k_E_1, k_E_2, k_O_0, k_O_1, k_O_2, f_A, f_E, f_O, hl_A, hl_E, hl_O]; done))
        have k_A_2_W3 : W3.cell? ⟨g, 2, none⟩ = some (.slice rx2 (nlen (p2).den) cx2) := by rw [← hW]; (first | with_reducible exact k_A_2 | (simp [go_sem, k_A_2]; done) | (simp [go_sem, k_A_2, hl_A]; done) | (go_simp; done) | (simp [go_sem, k_A_0, k_A_1, k_A_2, k_E_0, k_E_1, k_E_2, k_O_0, k_O_1, k_O_2, f_A, f_E, f_O, hl_A, hl_E, hl_O]; done))
        have f_A_W3 : ∀ o, W3.frozen? ⟨g, o, none⟩ = false := by intro o; rw [← hW]; (first | with_reducible exact f_A o | (simp [go_sem, f_A]; done) | (simp [go_sem, f_A, hl_A]; done) | (go_simp; done) | (simp [go_sem, k_A_0, k_A_1, k_A_2, k_E_0, k_E_1, k_E_2, k_O_0, k_O_1, k_O_2, f_A, f_E, f_O, hl_A, hl_E, hl_O]; done))
        have HX_A_W3 := Lib.hid (show Bn W3 (g) by rw [← hW]; (repeat' (first | with_reducible exact Kp.refl _ _ | with_reducible exact HX_A.out | with_reducible exact HX_E.out | with_reducible exact HX_O.out | with_reducible apply Kp.alloc | with_reducible apply Kp.drew | (with_reducible refine Kp.put ?_ ?_ ?_ _; rotate_left; (focus (first | omega | (simp; done) | (simp; omega))); rotate_left) | (with_reducible refine Bn.new _ _ _ _ ?_ ?_; (focus (first | omega | (simp; done) | (simp; omega))); decide) | with_reducible apply Bn.alloc | with_reducible apply Bn.drew | with_reducible apply Bn.set)))
        have hl_E_W3 : g + 1 < W3.heap.size := by rw [← hW]; (first | omega | (simp; done) | (simp; omega))
        have k_E_0_W3 : W3.cell? ⟨g + 1, 0, none⟩ = some (.bool s8) := by rw [← hW]; (first | with_reducible exact k_E_0 | (simp [go_sem, k_E_0]; done) | (simp [go_sem, k_E_0, hl_E]; done) | (go_simp; done) | (simp [go_sem, k_A_0, k_A_1, k_A_2, k_E_0, k_E_1, k_E_2, k_O_0, k_O_1, k_O_2, f_A, f_E, f_O, hl_A, hl_E, hl_O]; done))
        have k_E_1_W3 : W3.cell? ⟨g + 1, 1, none⟩ = some (.slice a8 n8 c8) := by rw [← hW]; (first | with_reducible exact k_E_1 | (simp [go_sem, k_E_1]; done) | (simp [go_sem, k_E_1, hl_E]; done) | (go_simp; done) | (simp [go_sem, k_A_0, k_A_1, k_A_2, k_E_0, k_E_1, k_E_2, k_O_0, k_O_1, k_O_2, f_A, f_E, f_O, hl_A, hl_E, hl_O]; done))
        have k_E_2_W3 : W3.cell? ⟨g + 1, 2, none⟩ = some (.slice d8 m8 e8) := by rw [← hW]; (first | with_reducible exact k_E_2 | (simp [go_sem, k_E_2]; done) | (simp [go_sem, k_E_2, hl_E]; done) | (go_simp; done) | (simp [go_sem, k_A_0, k_A_1, k_A_2, k_E_0, k_E_1, k_E_2, k_O_0, k_O_1, k_O_2, f_A, f_E, f_O, hl_A, hl_E, hl_O]; done))
        have f_E_W3 : ∀ o, W3.frozen? ⟨g + 1, o, none⟩ = false := by intro o; rw [← hW]; (first | with_reducible exact f_E o | (simp [go_sem, f_E]; done) | (simp [go_sem, f_E, hl_E]; done) | (go_simp; done) | (simp [go_sem, k_A_0, k_A_1, k_A_2, k_E_0, k_E_1, k_E_2, k_O_0, k_O_1, k_O_2, f_A, f_E, f_O, hl_A, hl_E, hl_O]; done))
        have HX_E_W3 := Lib.hid (show Bn W3 (g + 1) by rw [← hW]; (repeat' (first | with_reducible exact Kp.refl _ _ | with_reducible exact HX_A.out | with_reducible exact HX_E.out | with_reducible exact HX_O.out | with_reducible apply Kp.alloc | with_reducible apply Kp.drew | (with_reducible refine Kp.put ?_ ?_ ?_ _; rotate_left; (focus (first | omega | (simp; done) | (simp; omega))); rotate_left) | (with_reducible refine Bn.new _ _ _ _ ?_ ?_; (focus (first | omega | (simp; done) | (simp; omega))); decide) | with_reducible apply Bn.alloc | with_reducible apply Bn.drew | with_reducible apply Bn.set)))
        have hl_O_W3 : g + 1 + 1 < W3.heap.size := by rw [← hW]; (first | omega | (simp; done) | (simp; omega))
        have k_O_0_W3 : W3.cell? ⟨g + 1 + 1, 0, none⟩ = some (.bool s9) := by rw [← hW]; (first | with_reducible exact k_O_0 | (simp [go_sem, k_O_0]; done) | (simp [go_sem, k_O_0, hl_O]; done) | (go_simp; done) | (simp [go_sem, k_A_0, k_A_1, k_A_2, k_E_0, k_E_1, k_E_2, k_O_0, k_O_1, k_O_2, f_A, f_E, f_O, hl_A, hl_E, hl_O]; done))
        have k_O_1_W3 : W3.cell? ⟨g + 1 + 1, 1, none⟩ = some (.slice a9 n9 c9) := by rw [← hW]; (first | with_reducible exact k_O_1 | (simp [go_sem, k_O_1]; done) | (simp [go_sem, k_O_1, hl_O]; done) | (go_simp; done) | (simp [go_sem, k_A_0, k_A_1, k_A_2, k_E_0, k_E_1, k_E_2, k_O_0, k_O_1, k_O_2, f_A, f_E, f_O, hl_A, hl_E, hl_O]; done))
        have k_O_2_W3 : W3.cell? ⟨g + 1 + 1, 2, none⟩ = some (.slice d9 m9 e9) := by rw [← hW]; (first | with_reducible exact k_O_2 | (simp [go_sem, k_O_2]; done) | (simp [go_sem, k_O_2, hl_O]; done) | (go_simp; done) | (simp [go_sem, k_A_0, k_A_1, k_A_2, k_E_0, k_E_1, k_E_2, k_O_0, k_O_1, k_O_2, f_A, f_E, f_O, hl_A, hl_E, hl_O]; done))
        have f_O_W3 : ∀ o, W3.frozen? ⟨g + 1 + 1, o, none⟩ = false := by intro o; rw [← hW]; (first | with_reducible exact f_O o | (simp [go_sem, f_O]; done) | (simp [go_sem, f_O, hl_O]; done) | (go_simp; done) | (simp [go_sem, k_A_0, k_A_1, k_A_2, k_E_0, k_E_1, k_E_2, k_O_0, k_O_1, k_O_2, f_A, f_E, f_O, hl_A, hl_E, hl_O]; done))
        have HX_O_W3 := Lib.hid (show Bn W3 (g + 1 + 1) by rw [← hW]; (repeat' (first | with_reducible exact Kp.refl _ _ | with_reducible exact HX_A.out | with_reducible exact HX_E.out | with_reducible exact HX_O.out | with_reducible apply Kp.alloc | with_reducible apply Kp.drew | (with_reducible refine Kp.put ?_ ?_ ?_ _; rotate_left; (focus (first | omega | (simp; done) | (simp; omega))); rotate_left) | (with_reducible refine Bn.new _ _ _ _ ?_ ?_; (focus (first | omega | (simp; done) | (simp; omega))); decide) | with_reducible apply Bn.alloc | with_reducible apply Bn.drew | with_reducible apply Bn.set)))
        have hl_N1_W3 : wa2.heap.size < W3.heap.size := by rw [← hW]; (first | omega | (simp; done) | (simp; omega))
        have k_N1_0_W3 : W3.cell? ⟨wa2.heap.size, 0, none⟩ = some (.bool (decide ((po).num < 0))) := by rw [← hW]; (first | (go_simp; done) | (simp; done) | (simp [go_sem]; done) | (simp [go_sem, k_A_0, k_A_1, k_A_2, k_E_0, k_E_1, k_E_2, k_O_0, k_O_1, k_O_2, f_A, f_E, f_O, hl_A, hl_E, hl_O]; done))
        have k_N1_1_W3 : W3.cell? ⟨wa2.heap.size, 1, none⟩ = some (.slice ro (nlen (po).num.natAbs) co) := by rw [← hW]; (first | (go_simp; done) | (simp; done) | (simp [go_sem]; done) | (simp [go_sem, k_A_0, k_A_1, k_A_2, k_E_0, k_E_1, k_E_2, k_O_0, k_O_1, k_O_2, f_A, f_E, f_O, hl_A, hl_E, hl_O]; done))
        have k_N1_2_W3 : W3.cell? ⟨wa2.heap.size, 2, none⟩ = some (.slice ro2 (nlen (po).den) co2) := by rw [← hW]; (first | (go_simp; done) | (simp; done) | (simp [go_sem]; done) | (simp [go_sem, k_A_0, k_A_1, k_A_2, k_E_0, k_E_1, k_E_2, k_O_0, k_O_1, k_O_2, f_A, f_E, f_O, hl_A, hl_E, hl_O]; done))
        have f_N1_W3 : ∀ o, W3.frozen? ⟨wa2.heap.size, o, none⟩ = false := by intro o; rw [← hW]; (first | (go_simp; done) | (simp; done) | (simp [go_sem]; done) | (simp [go_sem, k_A_0, k_A_1, k_A_2, k_E_0, k_E_1, k_E_2, k_O_0, k_O_1, k_O_2, f_A, f_E, f_O, hl_A, hl_E, hl_O]; done))
        have HX_N1_W3 := Lib.hid (show Bn W3 (wa2.heap.size) by rw [← hW]; (repeat' (first | with_reducible exact Kp.refl _ _ | with_reducible exact HX_A.out | with_reducible exact HX_E.out | with_reducible exact HX_O.out | with_reducible apply Kp.alloc | with_reducible apply Kp.drew | (with_reducible refine Kp.put ?_ ?_ ?_ _; rotate_left; (focus (first | omega | (simp; done) | (simp; omega))); rotate_left) | (with_reducible refine Bn.new _ _ _ _ ?_ ?_; (focus (first | omega | (simp; done) | (simp; omega))); decide) | with_reducible apply Bn.alloc | with_reducible apply Bn.drew | with_reducible apply Bn.set)))
        have HK_W3 := Lib.hid (show Kp N wa2 W3 by rw [← hW]; (repeat' (first | with_reducible exact Kp.refl _ _ | with_reducible exact HX_A.out | with_reducible exact HX_E.out | with_reducible exact HX_O.out | with_reducible apply Kp.alloc | with_reducible apply Kp.drew | (with_reducible refine Kp.put ?_ ?_ ?_ _; rotate_left; (focus (first | omega | (simp; done) | (simp; omega))); rotate_left) | (with_reducible refine Bn.new _ _ _ _ ?_ ?_; (focus (first | omega | (simp; done) | (simp; omega))); decide) | with_reducible apply Bn.alloc | with_reducible apply Bn.drew | with_reducible apply Bn.set)))
        have HX1_W3 := Lib.hid (HX1.out.keep HK_W3.out)
        have HX2_W3 := Lib.hid (HX2.out.keep HK_W3.out)
        have HR8_W3 := Lib.hid (HR8.out.keep HK_W3.out)
        have HR9_W3 := Lib.hid (HR9.out.keep HK_W3.out)
        have HO1_W3 := Lib.hid (HO1.out.keep HK_W3.out)
        have HO2_W3 := Lib.hid (HO2.out.keep HK_W3.out)
        have HB_W3 := Lib.hid (show Below w.heap.size w W3 by rw [← hW]; (repeat' (first | with_reducible exact Below.refl _ _ | with_reducible exact HB.out | (with_reducible refine Below.alloc ?_ ?_ _; rotate_left; (focus (first | omega | (simp; done) | (simp; omega)))) | with_reducible apply Below.drew | (with_reducible refine Below.setCell ?_ ?_ _; rotate_left; (focus (first | omega | (simp; done) | (simp; omega)))))))
        clear hW HK_W3
        clear hl_A f_A HX_A k_A_0 k_A_1 k_A_2 hl_E f_E HX_E k_E_0 k_E_1 k_E_2 hl_O f_O HX_O k_O_0 k_O_1 k_O_2 HX1 HX2 HR8 HR9 HO1 HO2 HB hN hs0
        have hN := hN_W3
        have HB := HB_W3
        have hs0 := hs0_W3
        have hl_A := hl_A_W3
        have f_A := f_A_W3
        have HX_A := HX_A_W3
        have k_A_0 := k_A_0_W3
        have k_A_1 := k_A_1_W3
        have k_A_2 := k_A_2_W3
        have hl_E := hl_E_W3
        have f_E := f_E_W3
        have HX_E := HX_E_W3
        have k_E_0 := k_E_0_W3
        have k_E_1 := k_E_1_W3
        have k_E_2 := k_E_2_W3
        have hl_O := hl_O_W3
        have f_O := f_O_W3
        have HX_O := HX_O_W3
        have k_O_0 := k_O_0_W3
        have k_O_1 := k_O_1_W3
        have k_O_2 := k_O_2_W3
        have hl_N1 := hl_N1_W3
        have f_N1 := f_N1_W3
        have HX_N1 := HX_N1_W3
        have k_N1_0 := k_N1_0_W3
        have k_N1_1 := k_N1_1_W3
        have k_N1_2 := k_N1_2_W3
        have HX1 := HX1_W3
        have HX2 := HX2_W3
        have HR8 := HR8_W3
        have HR9 := HR9_W3
        have HO1 := HO1_W3
        have HO2 := HO2_W3
        clear hN_W3 HB_W3 hs0_W3 hl_A_W3 f_A_W3 HX_A_W3 k_A_0_W3 k_A_1_W3 k_A_2_W3 hl_E_W3 f_E_W3 HX_E_W3 k_E_0_W3 k_E_1_W3 k_E_2_W3 hl_O_W3 f_O_W3 HX_O_W3 k_O_0_W3 k_O_1_W3 k_O_2_W3 hl_N1_W3 f_N1_W3 HX_N1_W3 k_N1_0_W3 k_N1_1_W3 k_N1_2_W3 HX1_W3 HX2_W3 HR8_W3 HR9_W3 HO1_W3 HO2_W3
        refine (rdiv_any (N := N) _ _ _ _ _ _ _ _ _ _ _ _ _ _ 300 300 q9 q8 _ hN HR9.out HR8.out (by omega) (by omega) sh HSh.out true HOk.out).mono ?_
        rintro e wb2 ⟨rs, cs, rs2, cs2, rfl, hn, hn', hb⟩
        have hN_wb2 : N ≤ wb2.heap.size := Nat.le_trans hN hb.size
        have hs_wb2 : W3.heap.size ≤ wb2.heap.size := hb.size
        have hs0_wb2 : w.heap.size ≤ wb2.heap.size := Nat.le_trans hs0 hb.size
        have hl_A_wb2 : g < wb2.heap.size := Nat.lt_of_lt_of_le hl_A hb.size
        have k_A_0_wb2 : wb2.cell? ⟨g, 0, none⟩ = some (.bool (decide ((p2).num < 0))) := (hb.cell (p := ⟨g, 0, none⟩) hl_A).trans k_A_0
        have k_A_1_wb2 : wb2.cell? ⟨g, 1, none⟩ = some (.slice rx (nlen (p2).num.natAbs) cx) := (hb.cell (p := ⟨g, 1, none⟩) hl_A).trans k_A_1
        have k_A_2_wb2 : wb2.cell? ⟨g, 2, none⟩ = some (.slice rx2 (nlen (p2).den) cx2) := (hb.cell (p := ⟨g, 2, none⟩) hl_A).trans k_A_2
        have f_A_wb2 : ∀ o, wb2.frozen? ⟨g, o, none⟩ = false := fun o => (hb.frozen (p := ⟨g, o, none⟩) hl_A).trans (f_A o)
        have HX_A_wb2 := Lib.hid (HX_A.out.below hb)
        have hl_E_wb2 : g + 1 < wb2.heap.size := Nat.lt_of_lt_of_le hl_E hb.size
        have k_E_0_wb2 : wb2.cell? ⟨g + 1, 0, none⟩ = some (.bool s8) := (hb.cell (p := ⟨g + 1, 0, none⟩) hl_E).trans k_E_0
        have k_E_1_wb2 : wb2.cell? ⟨g + 1, 1, none⟩ = some (.slice a8 n8 c8) := (hb.cell (p := ⟨g + 1, 1, none⟩) hl_E).trans k_E_1
        have k_E_2_wb2 : wb2.cell? ⟨g + 1, 2, none⟩ = some (.slice d8 m8 e8) := (hb.cell (p := ⟨g + 1, 2, none⟩) hl_E).trans k_E_2
        have f_E_wb2 : ∀ o, wb2.frozen? ⟨g + 1, o, none⟩ = false := fun o => (hb.frozen (p := ⟨g + 1, o, none⟩) hl_E).trans (f_E o)
        have HX_E_wb2 := Lib.hid (HX_E.out.below hb)
        have hl_O_wb2 : g + 1 + 1 < wb2.heap.size := Nat.lt_of_lt_of_le hl_O hb.size
        have k_O_0_wb2 : wb2.cell? ⟨g + 1 + 1, 0, none⟩ = some (.bool s9) := (hb.cell (p := ⟨g + 1 + 1, 0, none⟩) hl_O).trans k_O_0
        have k_O_1_wb2 : wb2.cell? ⟨g + 1 + 1, 1, none⟩ = some (.slice a9 n9 c9) := (hb.cell (p := ⟨g + 1 + 1, 1, none⟩) hl_O).trans k_O_1
        have k_O_2_wb2 : wb2.cell? ⟨g + 1 + 1, 2, none⟩ = some (.slice d9 m9 e9) := (hb.cell (p := ⟨g + 1 + 1, 2, none⟩) hl_O).trans k_O_2
        have f_O_wb2 : ∀ o, wb2.frozen? ⟨g + 1 + 1, o, none⟩ = false := fun o => (hb.frozen (p := ⟨g + 1 + 1, o, none⟩) hl_O).trans (f_O o)
        have HX_O_wb2 := Lib.hid (HX_O.out.below hb)
        have hl_N1_wb2 : wa2.heap.size < wb2.heap.size := Nat.lt_of_lt_of_le hl_N1 hb.size
        have k_N1_0_wb2 : wb2.cell? ⟨wa2.heap.size, 0, none⟩ = some (.bool (decide ((po).num < 0))) := (hb.cell (p := ⟨wa2.heap.size, 0, none⟩) hl_N1).trans k_N1_0
        have k_N1_1_wb2 : wb2.cell? ⟨wa2.heap.size, 1, none⟩ = some (.slice ro (nlen (po).num.natAbs) co) := (hb.cell (p := ⟨wa2.heap.size, 1, none⟩) hl_N1).trans k_N1_1
        have k_N1_2_wb2 : wb2.cell? ⟨wa2.heap.size, 2, none⟩ = some (.slice ro2 (nlen (po).den) co2) := (hb.cell (p := ⟨wa2.heap.size, 2, none⟩) hl_N1).trans k_N1_2
        have f_N1_wb2 : ∀ o, wb2.frozen? ⟨wa2.heap.size, o, none⟩ = false := fun o => (hb.frozen (p := ⟨wa2.heap.size, o, none⟩) hl_N1).trans (f_N1 o)
        have HX_N1_wb2 := Lib.hid (HX_N1.out.below hb)
        have HX1_wb2 := Lib.hid (HX1.out.below hb)
        have HX2_wb2 := Lib.hid (HX2.out.below hb)
        have HR8_wb2 := Lib.hid (HR8.out.below hb)
        have HR9_wb2 := Lib.hid (HR9.out.below hb)
        have HO1_wb2 := Lib.hid (HO1.out.below hb)
        have HO2_wb2 := Lib.hid (HO2.out.below hb)
        have HB_wb2 := Lib.hid (HB.out.trans (hb.mono hs0))
        clear hb
        clear hl_A f_A HX_A k_A_0 k_A_1 k_A_2 hl_E f_E HX_E k_E_0 k_E_1 k_E_2 hl_O f_O HX_O k_O_0 k_O_1 k_O_2 hl_N1 f_N1 HX_N1 k_N1_0 k_N1_1 k_N1_2 HX1 HX2 HR8 HR9 HO1 HO2 HB hN hs0
        have hN := hN_wb2
        have HB := HB_wb2
        have hs0 := hs0_wb2
        have hl_A := hl_A_wb2
        have f_A := f_A_wb2
        have HX_A := HX_A_wb2
        have k_A_0 := k_A_0_wb2
        have k_A_1 := k_A_1_wb2
        have k_A_2 := k_A_2_wb2
        have hl_E := hl_E_wb2
        have f_E := f_E_wb2
        have HX_E := HX_E_wb2
        have k_E_0 := k_E_0_wb2
        have k_E_1 := k_E_1_wb2
        have k_E_2 := k_E_2_wb2
        have hl_O := hl_O_wb2
        have f_O := f_O_wb2
        have HX_O := HX_O_wb2
        have k_O_0 := k_O_0_wb2
        have k_O_1 := k_O_1_wb2
        have k_O_2 := k_O_2_wb2
        have hl_N1 := hl_N1_wb2
        have f_N1 := f_N1_wb2
        have HX_N1 := HX_N1_wb2
        have k_N1_0 := k_N1_0_wb2
        have k_N1_1 := k_N1_1_wb2
        have k_N1_2 := k_N1_2_wb2
        have HX1 := HX1_wb2
        have HX2 := HX2_wb2
        have HR8 := HR8_wb2
        have HR9 := HR9_wb2
        have HO1 := HO1_wb2
        have HO2 := HO2_wb2
        clear hN_wb2 HB_wb2 hs0_wb2 hl_A_wb2 f_A_wb2 HX_A_wb2 k_A_0_wb2 k_A_1_wb2 k_A_2_wb2 hl_E_wb2 f_E_wb2 HX_E_wb2 k_E_0_wb2 k_E_1_wb2 k_E_2_wb2 hl_O_wb2 f_O_wb2 HX_O_wb2 k_O_0_wb2 k_O_1_wb2 k_O_2_wb2 hl_N1_wb2 f_N1_wb2 HX_N1_wb2 k_N1_0_wb2 k_N1_1_wb2 k_N1_2_wb2 HX1_wb2 HX2_wb2 HR8_wb2 HR9_wb2 HO1_wb2 HO2_wb2
        have HS1 := Lib.hid hn
        clear hn
        have HS2 := Lib.hid hn'
        clear hn'
        go_wp2_with fail
        refine calls_name fun W4 hW => ?_
        have hN_W4 : N ≤ W4.heap.size := by rw [← hW]; (first | omega | (simp; done) | (simp; omega))
        have hs_W4 : wb2.heap.size ≤ W4.heap.size := by rw [← hW]; (first | omega | (simp; done) | (simp; omega))
        have hs0_W4 : w.heap.size ≤ W4.heap.size := by rw [← hW]; (first | omega | (simp; done) | (simp; omega))
        have hd_A_SH : g < wb2.heap.size := by omega
        have hd_E_SH : g + 1 < wb2.heap.size := by omega
        have hd_O_SH : g + 1 + 1 < wb2.heap.size := by omega
        have hd_N1_SH : wa2.heap.size < wb2.heap.size := by omega
        have hl_A_W4 : g < W4.heap.size := by rw [← hW]; (first | omega | (simp; done) | (simp; omega))
        have k_A_0_W4 : W4.cell? ⟨g, 0, none⟩ = some (.bool (decide ((p2).num < 0))) := by rw [← hW]; (first | with_reducible exact k_A_0 | (simp [go_sem, k_A_0]; done) | (simp [go_sem, k_A_0, hl_A]; done) | (go_simp; done) | (simp [go_sem, k_A_0, k_A_1, k_A_2, k_E_0, k_E_1, k_E_2, k_O_0, k_O_1, k_O_2, k_N1_0, k_N1_1, k_N1_2, f_A, f_E, f_O, f_N1, hl_A, hl_E, hl_O, hl_N1]; done))
        have k_A_1_W4 : W4.cell? ⟨g, 1, none⟩ = some (.slice rx (nlen (p2).num.natAbs) cx) := by rw [← hW]; (first | with_reducible exact k_A_1 | (simp [go_sem, k_A_1]; done) | (simp [go_sem, k_A_1, hl_A]; done) | (go_simp; done) | (simp [go_sem, k_A_0, k_A_1, k_A_2, k_E_0, k_E_1, k_E_2, k_O_0, k_O_1, k_O_2, k_N1_0, k_N1_1, k_N1_2, f_A, f_E, f_O, f_N1, hl_A, hl_E, hl_O, hl_N1]; done))
        have k_A_2_W4 : W4.cell? ⟨g, 2, none⟩ = some (.slice rx2 (nlen (p2).den) cx2) := by rw [← hW]; (first | with_reducible exact k_A_2 | (simp [go_sem, k_A_2]; done) | (simp [go_sem, k_A_2, hl_A]; done) | (go_simp; done) | (simp [go_sem, k_A_0, k_A_1, k_A_2, k_E_0, k_E_1, k_E_2, k_O_0, k_O_1, k_O_2, k_N1_0, k_N1_1, k_N1_2, f_A, f_E, f_O, f_N1, hl_A, hl_E, hl_O, hl_N1]; done))
        have f_A_W4 : ∀ o, W4.frozen? ⟨g, o, none⟩ = false := by intro o; rw [← hW]; (first | with_reducible exact f_A o | (simp [go_sem, f_A]; done) | (simp [go_sem, f_A, hl_A]; done) | (go_simp; done) | (simp [go_sem, k_A_0, k_A_1, k_A_2, k_E_0, k_E_1, k_E_2, k_O_0, k_O_1, k_O_2, k_N1_0, k_N1_1, k_N1_2, f_A, f_E, f_O, f_N1, hl_A, hl_E, hl_O, hl_N1]; done))
        have HX_A_W4 := Lib.hid (show Bn W4 (g) by rw [← hW]; (repeat' (first | with_reducible exact Kp.refl _ _ | with_reducible exact HX_A.out | with_reducible exact HX_E.out | with_reducible exact HX_O.out | with_reducible exact HX_N1.out | with_reducible apply Kp.alloc | with_reducible apply Kp.drew | (with_reducible refine Kp.put ?_ ?_ ?_ _; rotate_left; (focus (first | omega | (simp; done) | (simp; omega))); rotate_left) | (with_reducible refine Bn.new _ _ _ _ ?_ ?_; (focus (first | omega | (simp; done) | (simp; omega))); decide) | with_reducible apply Bn.alloc | with_reducible apply Bn.drew | with_reducible apply Bn.set)))
        have hl_E_W4 : g + 1 < W4.heap.size := by rw [← hW]; (first | omega | (simp; done) | (simp; omega))
        have k_E_0_W4 : W4.cell? ⟨g + 1, 0, none⟩ = some (.bool s8) := by rw [← hW]; (first | with_reducible exact k_E_0 | (simp [go_sem, k_E_0]; done) | (simp [go_sem, k_E_0, hl_E]; done) | (go_simp; done) | (simp [go_sem, k_A_0, k_A_1, k_A_2, k_E_0, k_E_1, k_E_2, k_O_0, k_O_1, k_O_2, k_N1_0, k_N1_1, k_N1_2, f_A, f_E, f_O, f_N1, hl_A, hl_E, hl_O, hl_N1]; done))
        have k_E_1_W4 : W4.cell? ⟨g + 1, 1, none⟩ = some (.slice a8 n8 c8) := by rw [← hW]; (first | with_reducible exact k_E_1 | (simp [go_sem, k_E_1]; done) | (simp [go_sem, k_E_1, hl_E]; done) | (go_simp; done) | (simp [go_sem, k_A_0, k_A_1, k_A_2, k_E_0, k_E_1, k_E_2, k_O_0, k_O_1, k_O_2, k_N1_0, k_N1_1, k_N1_2, f_A, f_E, f_O, f_N1, hl_A, hl_E, hl_O, hl_N1]; done))
        have k_E_2_W4 : W4.cell? ⟨g + 1, 2, none⟩ = some (.slice d8 m8 e8) := by rw [← hW]; (first | with_reducible exact k_E_2 | (simp [go_sem, k_E_2]; done) | (simp [go_sem, k_E_2, hl_E]; done) | (go_simp; done) | (simp [go_sem, k_A_0, k_A_1, k_A_2, k_E_0, k_E_1, k_E_2, k_O_0, k_O_1, k_O_2, k_N1_0, k_N1_1, k_N1_2, f_A, f_E, f_O, f_N1, hl_A, hl_E, hl_O, hl_N1]; done))
        have f_E_W4 : ∀ o, W4.frozen? ⟨g + 1, o, none⟩ = false := by intro o; rw [← hW]; (first | with_reducible exact f_E o | (simp [go_sem, f_E]; done) | (simp [go_sem, f_E, hl_E]; done) | (go_simp; done) | (simp [go_sem, k_A_0, k_A_1, k_A_2, k_E_0, k_E_1, k_E_2, k_O_0, k_O_1, k_O_2, k_N1_0, k_N1_1, k_N1_2, f_A, f_E, f_O, f_N1, hl_A, hl_E, hl_O, hl_N1]; done))
        have HX_E_W4 := Lib.hid (show Bn W4 (g + 1) by rw [← hW]; (repeat' (first | with_reducible exact Kp.refl _ _ | with_reducible exact HX_A.out | with_reducible exact HX_E.out | with_reducible exact HX_O.out | with_reducible exact HX_N1.out | with_reducible apply Kp.alloc | with_reducible apply Kp.drew | (with_reducible refine Kp.put ?_ ?_ ?_ _; rotate_left; (focus (first | omega | (simp; done) | (simp; omega))); rotate_left) | (with_reducible refine Bn.new _ _ _ _ ?_ ?_; (focus (first | omega | (simp; done) | (simp; omega))); decide) | with_reducible apply Bn.alloc | with_reducible apply Bn.drew | with_reducible apply Bn.set)))
        have hl_O_W4 : g + 1 + 1 < W4.heap.size := by rw [← hW]; (first | omega | (simp; done) | (simp; omega))
        have k_O_0_W4 : W4.cell? ⟨g + 1 + 1, 0, none⟩ = some (.bool s9) := by rw [← hW]; (first | with_reducible exact k_O_0 | (simp [go_sem, k_O_0]; done) | (simp [go_sem, k_O_0, hl_O]; done) | (go_simp; done) | (simp [go_sem, k_A_0, k_A_1, k_A_2, k_E_0, k_E_1, k_E_2, k_O_0, k_O_1, k_O_2, k_N1_0, k_N1_1, k_N1_2, f_A, f_E, f_O, f_N1, hl_A, hl_E, hl_O, hl_N1]; done))
        have k_O_1_W4 : W4.cell? ⟨g + 1 + 1, 1, none⟩ = some (.slice a9 n9 c9) := by rw [← hW]; (first | with_reducible exact k_O_1 | (simp [go_sem, k_O_1]; done) | (simp [go_sem, k_O_1, hl_O]; done) | (go_simp; done) | (simp [go_sem, k_A_0, k_A_1, k_A_2, k_E_0, k_E_1, k_E_2, k_O_0, k_O_1, k_O_2, k_N1_0, k_N1_1, k_N1_2, f_A, f_E, f_O, f_N1, hl_A, hl_E, hl_O, hl_N1]; done))
        have k_O_2_W4 : W4.cell? ⟨g + 1 + 1, 2, none⟩ = some (.slice d9 m9 e9) := by rw [← hW]; (first | with_reducible exact k_O_2 | (simp [go_sem, k_O_2]; done) | (simp [go_sem, k_O_2, hl_O]; done) | (go_simp; done) | (simp [go_sem, k_A_0, k_A_1, k_A_2, k_E_0, k_E_1, k_E_2, k_O_0, k_O_1, k_O_2, k_N1_0, k_N1_1, k_N1_2, f_A, f_E, f_O, f_N1, hl_A, hl_E, hl_O, hl_N1]; done))
        have f_O_W4 : ∀ o, W4.frozen? ⟨g + 1 + 1, o, none⟩ = false := by intro o; rw [← hW]; (first | with_reducible exact f_O o | (simp [go_sem, f_O]; done) | (simp [go_sem, f_O, hl_O]; done) | (go_simp; done) | (simp [go_sem, k_A_0, k_A_1, k_A_2, k_E_0, k_E_1, k_E_2, k_O_0, k_O_1, k_O_2, k_N1_0, k_N1_1, k_N1_2, f_A, f_E, f_O, f_N1, hl_A, hl_E, hl_O, hl_N1]; done))
        have HX_O_W4 := Lib.hid (show Bn W4 (g + 1 + 1) by rw [← hW]; (repeat' (first | with_reducible exact Kp.refl _ _ | with_reducible exact HX_A.out | with_reducible exact HX_E.out | with_reducible exact HX_O.out | with_reducible exact HX_N1.out | with_reducible apply Kp.alloc | with_reducible apply Kp.drew | (with_reducible refine Kp.put ?_ ?_ ?_ _; rotate_left; (focus (first | omega | (simp; done) | (simp; omega))); rotate_left) | (with_reducible refine Bn.new _ _ _ _ ?_ ?_; (focus (first | omega | (simp; done) | (simp; omega))); decide) | with_reducible apply Bn.alloc | with_reducible apply Bn.drew | with_reducible apply Bn.set)))
        have hl_N1_W4 : wa2.heap.size < W4.heap.size := by rw [← hW]; (first | omega | (simp; done) | (simp; omega))
        have k_N1_0_W4 : W4.cell? ⟨wa2.heap.size, 0, none⟩ = some (.bool (decide ((po).num < 0))) := by rw [← hW]; (first | with_reducible exact k_N1_0 | (simp [go_sem, k_N1_0]; done) | (simp [go_sem, k_N1_0, hl_N1]; done) | (go_simp; done) | (simp [go_sem, k_A_0, k_A_1, k_A_2, k_E_0, k_E_1, k_E_2, k_O_0, k_O_1, k_O_2, k_N1_0, k_N1_1, k_N1_2, f_A, f_E, f_O, f_N1, hl_A, hl_E, hl_O, hl_N1]; done))
        have k_N1_1_W4 : W4.cell? ⟨wa2.heap.size, 1, none⟩ = some (.slice ro (nlen (po).num.natAbs) co) := by rw [← hW]; (first | with_reducible exact k_N1_1 | (simp [go_sem, k_N1_1]; done) | (simp [go_sem, k_N1_1, hl_N1]; done) | (go_simp; done) | (simp [go_sem, k_A_0, k_A_1, k_A_2, k_E_0, k_E_1, k_E_2, k_O_0, k_O_1, k_O_2, k_N1_0, k_N1_1, k_N1_2, f_A, f_E, f_O, f_N1, hl_A, hl_E, hl_O, hl_N1]; done))
        have k_N1_2_W4 : W4.cell? ⟨wa2.heap.size, 2, none⟩ = some (.slice ro2 (nlen (po).den) co2) := by rw [← hW]; (first | with_reducible exact k_N1_2 | (simp [go_sem, k_N1_2]; done) | (simp [go_sem, k_N1_2, hl_N1]; done) | (go_simp; done) | (simp [go_sem, k_A_0, k_A_1, k_A_2, k_E_0, k_E_1, k_E_2, k_O_0, k_O_1, k_O_2, k_N1_0, k_N1_1, k_N1_2, f_A, f_E, f_O, f_N1, hl_A, hl_E, hl_O, hl_N1]; done))
        have f_N1_W4 : ∀ o, W4.frozen? ⟨wa2.heap.size, o, none⟩ = false := by intro o; rw [← hW]; (first | with_reducible exact f_N1 o | (simp [go_sem, f_N1]; done) | (simp [go_sem, f_N1, hl_N1]; done) | (go_simp; done) | (simp [go_sem, k_A_0, k_A_1, k_A_2, k_E_0, k_E_1, k_E_2, k_O_0, k_O_1, k_O_2, k_N1_0, k_N1_1, k_N1_2, f_A, f_E, f_O, f_N1, hl_A, hl_E, hl_O, hl_N1]; done))
        have HX_N1_W4 := Lib.hid (show Bn W4 (wa2.heap.size) by rw [← hW]; (repeat' (first | with_reducible exact Kp.refl _ _ | with_reducible exact HX_A.out | with_reducible exact HX_E.out | with_reducible exact HX_O.out | with_reducible exact HX_N1.out | with_reducible apply Kp.alloc | with_reducible apply Kp.drew | (with_reducible refine Kp.put ?_ ?_ ?_ _; rotate_left; (focus (first | omega | (simp; done) | (simp; omega))); rotate_left) | (with_reducible refine Bn.new _ _ _ _ ?_ ?_; (focus (first | omega | (simp; done) | (simp; omega))); decide) | with_reducible apply Bn.alloc | with_reducible apply Bn.drew | with_reducible apply Bn.set)))
        have hl_SH_W4 : wb2.heap.size < W4.heap.size := by rw [← hW]; (first | omega | (simp; done) | (simp; omega))
        have k_SH_0_W4 : W4.cell? ⟨wb2.heap.size, 0, none⟩ = some (.bool (decide ((sh).num < 0))) := by rw [← hW]; (first | (go_simp; done) | (simp; done) | (simp [go_sem]; done) | (simp [go_sem, k_A_0, k_A_1, k_A_2, k_E_0, k_E_1, k_E_2, k_O_0, k_O_1, k_O_2, k_N1_0, k_N1_1, k_N1_2, f_A, f_E, f_O, f_N1, hl_A, hl_E, hl_O, hl_N1]; done))
        have k_SH_1_W4 : W4.cell? ⟨wb2.heap.size, 1, none⟩ = some (.slice rs (nlen (sh).num.natAbs) cs) := by rw [← hW]; (first | (go_simp; done) | (simp; done) | (simp [go_sem]; done) | (simp [go_sem, k_A_0, k_A_1, k_A_2, k_E_0, k_E_1, k_E_2, k_O_0, k_O_1, k_O_2, k_N1_0, k_N1_1, k_N1_2, f_A, f_E, f_O, f_N1, hl_A, hl_E, hl_O, hl_N1]; done))
        have k_SH_2_W4 : W4.cell? ⟨wb2.heap.size, 2, none⟩ = some (.slice rs2 (nlen (sh).den) cs2) := by rw [← hW]; (first | (go_simp; done) | (simp; done) | (simp [go_sem]; done) | (simp [go_sem, k_A_0, k_A_1, k_A_2, k_E_0, k_E_1, k_E_2, k_O_0, k_O_1, k_O_2, k_N1_0, k_N1_1, k_N1_2, f_A, f_E, f_O, f_N1, hl_A, hl_E, hl_O, hl_N1]; done))
        have f_SH_W4 : ∀ o, W4.frozen? ⟨wb2.heap.size, o, none⟩ = false := by intro o; rw [← hW]; (first | (go_simp; done) | (simp; done) | (simp [go_sem]; done) | (simp [go_sem, k_A_0, k_A_1, k_A_2, k_E_0, k_E_1, k_E_2, k_O_0, k_O_1, k_O_2, k_N1_0, k_N1_1, k_N1_2, f_A, f_E, f_O, f_N1, hl_A, hl_E, hl_O, hl_N1]; done))
        have HX_SH_W4 := Lib.hid (show Bn W4 (wb2.heap.size) by rw [← hW]; (repeat' (first | with_reducible exact Kp.refl _ _ | with_reducible exact HX_A.out | with_reducible exact HX_E.out | with_reducible exact HX_O.out | with_reducible exact HX_N1.out | with_reducible apply Kp.alloc | with_reducible apply Kp.drew | (with_reducible refine Kp.put ?_ ?_ ?_ _; rotate_left; (focus (first | omega | (simp; done) | (simp; omega))); rotate_left) | (with_reducible refine Bn.new _ _ _ _ ?_ ?_; (focus (first | omega | (simp; done) | (simp; omega))); decide) | with_reducible apply Bn.alloc | with_reducible apply Bn.drew | with_reducible apply Bn.set)))
        have HK_W4 := Lib.hid (show Kp N wb2 W4 by rw [← hW]; (repeat' (first | with_reducible exact Kp.refl _ _ | with_reducible exact HX_A.out | with_reducible exact HX_E.out | with_reducible exact HX_O.out | with_reducible exact HX_N1.out | with_reducible apply Kp.alloc | with_reducible apply Kp.drew | (with_reducible refine Kp.put ?_ ?_ ?_ _; rotate_left; (focus (first | omega | (simp; done) | (simp; omega))); rotate_left) | (with_reducible refine Bn.new _ _ _ _ ?_ ?_; (focus (first | omega | (simp; done) | (simp; omega))); decide) | with_reducible apply Bn.alloc | with_reducible apply Bn.drew | with_reducible apply Bn.set)))
        have HX1_W4 := Lib.hid (HX1.out.keep HK_W4.out)
        have HX2_W4 := Lib.hid (HX2.out.keep HK_W4.out)
        have HR8_W4 := Lib.hid (HR8.out.keep HK_W4.out)
        have HR9_W4 := Lib.hid (HR9.out.keep HK_W4.out)
        have HO1_W4 := Lib.hid (HO1.out.keep HK_W4.out)
        have HO2_W4 := Lib.hid (HO2.out.keep HK_W4.out)
        have HS1_W4 := Lib.hid (HS1.out.keep HK_W4.out)
        have HS2_W4 := Lib.hid (HS2.out.keep HK_W4.out)
        have HB_W4 := Lib.hid (show Below w.heap.size w W4 by rw [← hW]; (repeat' (first | with_reducible exact Below.refl _ _ | with_reducible exact HB.out | (with_reducible refine Below.alloc ?_ ?_ _; rotate_left; (focus (first | omega | (simp; done) | (simp; omega)))) | with_reducible apply Below.drew | (with_reducible refine Below.setCell ?_ ?_ _; rotate_left; (focus (first | omega | (simp; done) | (simp; omega)))))))
        clear hW HK_W4
        clear hl_A f_A HX_A k_A_0 k_A_1 k_A_2 hl_E f_E HX_E k_E_0 k_E_1 k_E_2 hl_O f_O HX_O k_O_0 k_O_1 k_O_2 hl_N1 f_N1 HX_N1 k_N1_0 k_N1_1 k_N1_2 HX1 HX2 HR8 HR9 HO1 HO2 HS1 HS2 HB hN hs0
        have hN := hN_W4
        have HB := HB_W4
        have hs0 := hs0_W4
        have hl_A := hl_A_W4
        have f_A := f_A_W4
        have HX_A := HX_A_W4
        have k_A_0 := k_A_0_W4
        have k_A_1 := k_A_1_W4
        have k_A_2 := k_A_2_W4
        have hl_E := hl_E_W4
        have f_E := f_E_W4
        have HX_E := HX_E_W4
        have k_E_0 := k_E_0_W4
        have k_E_1 := k_E_1_W4
        have k_E_2 := k_E_2_W4
        have hl_O := hl_O_W4
        have f_O := f_O_W4
        have HX_O := HX_O_W4
        have k_O_0 := k_O_0_W4
        have k_O_1 := k_O_1_W4
        have k_O_2 := k_O_2_W4
        have hl_N1 := hl_N1_W4
        have f_N1 := f_N1_W4
        have HX_N1 := HX_N1_W4
        have k_N1_0 := k_N1_0_W4
        have k_N1_1 := k_N1_1_W4
        have k_N1_2 := k_N1_2_W4
        have hl_SH := hl_SH_W4
        have f_SH := f_SH_W4
        have HX_SH := HX_SH_W4
        have k_SH_0 := k_SH_0_W4
        have k_SH_1 := k_SH_1_W4
        have k_SH_2 := k_SH_2_W4
        have HX1 := HX1_W4
        have HX2 := HX2_W4
        have HR8 := HR8_W4
        have HR9 := HR9_W4
        have HO1 := HO1_W4
        have HO2 := HO2_W4
        have HS1 := HS1_W4
        have HS2 := HS2_W4
        clear hN_W4 HB_W4 hs0_W4 hl_A_W4 f_A_W4 HX_A_W4 k_A_0_W4 k_A_1_W4 k_A_2_W4 hl_E_W4 f_E_W4 HX_E_W4 k_E_0_W4 k_E_1_W4 k_E_2_W4 hl_O_W4 f_O_W4 HX_O_W4 k_O_0_W4 k_O_1_W4 k_O_2_W4 hl_N1_W4 f_N1_W4 HX_N1_W4 k_N1_0_W4 k_N1_1_W4 k_N1_2_W4 hl_SH_W4 f_SH_W4 HX_SH_W4 k_SH_0_W4 k_SH_1_W4 k_SH_2_W4 HX1_W4 HX2_W4 HR8_W4 HR9_W4 HO1_W4 HO2_W4 HS1_W4 HS2_W4
        refine (rof_any (N := N) (K : Int) ((K : Int) - 1) _ hN (by omega) (by omega) (by omega) (by omega) pf HPf.out).mono ?_
        rw [HKd.out]
        rintro e wc2 ⟨rf, cf, rf2, cf2, rfl, hn, hn', hb⟩
        have hN_wc2 : N ≤ wc2.heap.size := Nat.le_trans hN hb.size
        have hs_wc2 : W4.heap.size ≤ wc2.heap.size := hb.size
        have hs0_wc2 : w.heap.size ≤ wc2.heap.size := Nat.le_trans hs0 hb.size
        have hl_A_wc2 : g < wc2.heap.size := Nat.lt_of_lt_of_le hl_A hb.size
        have k_A_0_wc2 : wc2.cell? ⟨g, 0, none⟩ = some (.bool (decide ((p2).num < 0))) := (hb.cell (p := ⟨g, 0, none⟩) hl_A).trans k_A_0
        have k_A_1_wc2 : wc2.cell? ⟨g, 1, none⟩ = some (.slice rx (nlen (p2).num.natAbs) cx) := (hb.cell (p := ⟨g, 1, none⟩) hl_A).trans k_A_1
        have k_A_2_wc2 : wc2.cell? ⟨g, 2, none⟩ = some (.slice rx2 (nlen (p2).den) cx2) := (hb.cell (p := ⟨g, 2, none⟩) hl_A).trans k_A_2
        have f_A_wc2 : ∀ o, wc2.frozen? ⟨g, o, none⟩ = false := fun o => (hb.frozen (p := ⟨g, o, none⟩) hl_A).trans (f_A o)
        have HX_A_wc2 := Lib.hid (HX_A.out.below hb)
        have hl_E_wc2 : g + 1 < wc2.heap.size := Nat.lt_of_lt_of_le hl_E hb.size
        have k_E_0_wc2 : wc2.cell? ⟨g + 1, 0, none⟩ = some (.bool s8) := (hb.cell (p := ⟨g + 1, 0, none⟩) hl_E).trans k_E_0
        have k_E_1_wc2 : wc2.cell? ⟨g + 1, 1, none⟩ = some (.slice a8 n8 c8) := (hb.cell (p := ⟨g + 1, 1, none⟩) hl_E).trans k_E_1
        have k_E_2_wc2 : wc2.cell? ⟨g + 1, 2, none⟩ = some (.slice d8 m8 e8) := (hb.cell (p := ⟨g + 1, 2, none⟩) hl_E).trans k_E_2
        have f_E_wc2 : ∀ o, wc2.frozen? ⟨g + 1, o, none⟩ = false := fun o => (hb.frozen (p := ⟨g + 1, o, none⟩) hl_E).trans (f_E o)
        have HX_E_wc2 := Lib.hid (HX_E.out.below hb)
        have hl_O_wc2 : g + 1 + 1 < wc2.heap.size := Nat.lt_of_lt_of_le hl_O hb.size
        have k_O_0_wc2 : wc2.cell? ⟨g + 1 + 1, 0, none⟩ = some (.bool s9) := (hb.cell (p := ⟨g + 1 + 1, 0, none⟩) hl_O).trans k_O_0
        have k_O_1_wc2 : wc2.cell? ⟨g + 1 + 1, 1, none⟩ = some (.slice a9 n9 c9) := (hb.cell (p := ⟨g + 1 + 1, 1, none⟩) hl_O).trans k_O_1
        have k_O_2_wc2 : wc2.cell? ⟨g + 1 + 1, 2, none⟩ = some (.slice d9 m9 e9) := (hb.cell (p := ⟨g + 1 + 1, 2, none⟩) hl_O).trans k_O_2
        have f_O_wc2 : ∀ o, wc2.frozen? ⟨g + 1 + 1, o, none⟩ = false := fun o => (hb.frozen (p := ⟨g + 1 + 1, o, none⟩) hl_O).trans (f_O o)
        have HX_O_wc2 := Lib.hid (HX_O.out.below hb)
        have hl_N1_wc2 : wa2.heap.size < wc2.heap.size := Nat.lt_of_lt_of_le hl_N1 hb.size
        have k_N1_0_wc2 : wc2.cell? ⟨wa2.heap.size, 0, none⟩ = some (.bool (decide ((po).num < 0))) := (hb.cell (p := ⟨wa2.heap.size, 0, none⟩) hl_N1).trans k_N1_0
        have k_N1_1_wc2 : wc2.cell? ⟨wa2.heap.size, 1, none⟩ = some (.slice ro (nlen (po).num.natAbs) co) := (hb.cell (p := ⟨wa2.heap.size, 1, none⟩) hl_N1).trans k_N1_1
        have k_N1_2_wc2 : wc2.cell? ⟨wa2.heap.size, 2, none⟩ = some (.slice ro2 (nlen (po).den) co2) := (hb.cell (p := ⟨wa2.heap.size, 2, none⟩) hl_N1).trans k_N1_2
        have f_N1_wc2 : ∀ o, wc2.frozen? ⟨wa2.heap.size, o, none⟩ = false := fun o => (hb.frozen (p := ⟨wa2.heap.size, o, none⟩) hl_N1).trans (f_N1 o)
        have HX_N1_wc2 := Lib.hid (HX_N1.out.below hb)
        have hl_SH_wc2 : wb2.heap.size < wc2.heap.size := Nat.lt_of_lt_of_le hl_SH hb.size
        have k_SH_0_wc2 : wc2.cell? ⟨wb2.heap.size, 0, none⟩ = some (.bool (decide ((sh).num < 0))) := (hb.cell (p := ⟨wb2.heap.size, 0, none⟩) hl_SH).trans k_SH_0
        have k_SH_1_wc2 : wc2.cell? ⟨wb2.heap.size, 1, none⟩ = some (.slice rs (nlen (sh).num.natAbs) cs) := (hb.cell (p := ⟨wb2.heap.size, 1, none⟩) hl_SH).trans k_SH_1
        have k_SH_2_wc2 : wc2.cell? ⟨wb2.heap.size, 2, none⟩ = some (.slice rs2 (nlen (sh).den) cs2) := (hb.cell (p := ⟨wb2.heap.size, 2, none⟩) hl_SH).trans k_SH_2
        have f_SH_wc2 : ∀ o, wc2.frozen? ⟨wb2.heap.size, o, none⟩ = false := fun o => (hb.frozen (p := ⟨wb2.heap.size, o, none⟩) hl_SH).trans (f_SH o)
        have HX_SH_wc2 := Lib.hid (HX_SH.out.below hb)
        have HX1_wc2 := Lib.hid (HX1.out.below hb)
        have HX2_wc2 := Lib.hid (HX2.out.below hb)
        have HR8_wc2 := Lib.hid (HR8.out.below hb)
        have HR9_wc2 := Lib.hid (HR9.out.below hb)
        have HO1_wc2 := Lib.hid (HO1.out.below hb)
        have HO2_wc2 := Lib.hid (HO2.out.below hb)
        have HS1_wc2 := Lib.hid (HS1.out.below hb)
        have HS2_wc2 := Lib.hid (HS2.out.below hb)
        have HB_wc2 := Lib.hid (HB.out.trans (hb.mono hs0))
        clear hb
        clear hl_A f_A HX_A k_A_0 k_A_1 k_A_2 hl_E f_E HX_E k_E_0 k_E_1 k_E_2 hl_O f_O HX_O k_O_0 k_O_1 k_O_2 hl_N1 f_N1 HX_N1 k_N1_0 k_N1_1 k_N1_2 hl_SH f_SH HX_SH k_SH_0 k_SH_1 k_SH_2 HX1 HX2 HR8 HR9 HO1 HO2 HS1 HS2 HB hN hs0
        have hN := hN_wc2
        have HB := HB_wc2
        have hs0 := hs0_wc2
        have hl_A := hl_A_wc2
        have f_A := f_A_wc2
        have HX_A := HX_A_wc2
        have k_A_0 := k_A_0_wc2
        have k_A_1 := k_A_1_wc2
        have k_A_2 := k_A_2_wc2
        have hl_E := hl_E_wc2
        have f_E := f_E_wc2
        have HX_E := HX_E_wc2
        have k_E_0 := k_E_0_wc2
        have k_E_1 := k_E_1_wc2
        have k_E_2 := k_E_2_wc2
        have hl_O := hl_O_wc2
        have f_O := f_O_wc2
        have HX_O := HX_O_wc2
        have k_O_0 := k_O_0_wc2
        have k_O_1 := k_O_1_wc2
        have k_O_2 := k_O_2_wc2
        have hl_N1 := hl_N1_wc2
        have f_N1 := f_N1_wc2
        have HX_N1 := HX_N1_wc2
        have k_N1_0 := k_N1_0_wc2
        have k_N1_1 := k_N1_1_wc2
        have k_N1_2 := k_N1_2_wc2
        have hl_SH := hl_SH_wc2
        have f_SH := f_SH_wc2
        have HX_SH := HX_SH_wc2
        have k_SH_0 := k_SH_0_wc2
        have k_SH_1 := k_SH_1_wc2
        have k_SH_2 := k_SH_2_wc2
        have HX1 := HX1_wc2
        have HX2 := HX2_wc2
        have HR8 := HR8_wc2
        have HR9 := HR9_wc2
        have HO1 := HO1_wc2
        have HO2 := HO2_wc2
        have HS1 := HS1_wc2
        have HS2 := HS2_wc2
        clear hN_wc2 HB_wc2 hs0_wc2 hl_A_wc2 f_A_wc2 HX_A_wc2 k_A_0_wc2 k_A_1_wc2 k_A_2_wc2 hl_E_wc2 f_E_wc2 HX_E_wc2 k_E_0_wc2 k_E_1_wc2 k_E_2_wc2 hl_O_wc2 f_O_wc2 HX_O_wc2 k_O_0_wc2 k_O_1_wc2 k_O_2_wc2 hl_N1_wc2 f_N1_wc2 HX_N1_wc2 k_N1_0_wc2 k_N1_1_wc2 k_N1_2_wc2 hl_SH_wc2 f_SH_wc2 HX_SH_wc2 k_SH_0_wc2 k_SH_1_wc2 k_SH_2_wc2 HX1_wc2 HX2_wc2 HR8_wc2 HR9_wc2 HO1_wc2 HO2_wc2 HS1_wc2 HS2_wc2
        have HF1 := Lib.hid hn
        clear hn
        have HF2 := Lib.hid hn'
        clear hn'
        go_wp2_with fail
        refine calls_name fun W5 hW => ?_
        have hN_W5 : N ≤ W5.heap.size := by rw [← hW]; (first | omega | (simp; done) | (simp; omega))
        have hs_W5 : wc2.heap.size ≤ W5.heap.size := by rw [← hW]; (first | omega | (simp; done) | (simp; omega))
        have hs0_W5 : w.heap.size ≤ W5.heap.size := by rw [← hW]; (first | omega | (simp; done) | (simp; omega))
        have hd_A_FA : g < wc2.heap.size := by omega
        have hd_E_FA : g + 1 < wc2.heap.size := by omega
        have hd_O_FA : g + 1 + 1 < wc2.heap.size := by omega
        have hd_N1_FA : wa2.heap.size < wc2.heap.size := by omega
        have hd_SH_FA : wb2.heap.size < wc2.heap.size := by omega
        have hl_A_W5 : g < W5.heap.size := by rw [← hW]; (first | omega | (simp; done) | (simp; omega))
        have k_A_0_W5 : W5.cell? ⟨g, 0, none⟩ = some (.bool (decide ((p2).num < 0))) := by rw [← hW]; (first | with_reducible exact k_A_0 | (simp [go_sem, k_A_0]; done) | (simp [go_sem, k_A_0, hl_A]; done) | (go_simp; done) | (simp [go_sem, k_A_0, k_A_1, k_A_2, k_E_0, k_E_1, k_E_2, k_O_0, k_O_1, k_O_2, k_N1_0, k_N1_1, k_N1_2, k_SH_0, k_SH_1, k_SH_2, f_A, f_E, f_O, f_N1, f_SH, hl_A, hl_E, hl_O, hl_N1, hl_SH]; done))
        have k_A_1_W5 : W5.cell? ⟨g, 1, none⟩ = some (.slice rx (nlen (p2).num.natAbs) cx) := by rw [← hW]; (first | with_reducible exact k_A_1 | (simp [go_sem, k_A_1]; done) | (simp [go_sem, k_A_1, hl_A]; done) | (go_simp; done) | (simp [go_sem, k_A_0, k_A_1, k_A_2, k_E_0, k_E_1, k_E_2, k_O_0, k_O_1, k_O_2, k_N1_0, k_N1_1, k_N1_2, k_SH_0, k_SH_1, k_SH_2, f_A, f_E, f_O, f_N1, f_SH, hl_A, hl_E, hl_O, hl_N1, hl_SH]; done))
        have k_A_2_W5 : W5.cell? ⟨g, 2, none⟩ = some (.slice rx2 (nlen (p2).den) cx2) := by rw [← hW]; (first | with_reducible exact k_A_2 | (simp [go_sem, k_A_2]; done) | (simp [go_sem, k_A_2, hl_A]; done) | (go_simp; done) | (simp [go_sem, k_A_0, k_A_1, k_A_2, k_E_0, k_E_1, k_E_2, k_O_0, k_O_1, k_O_2, k_N1_0, k_N1_1, k_N1_2, k_SH_0, k_SH_1, k_SH_2, f_A, f_E, f_O, f_N1, f_SH, hl_A, hl_E, hl_O, hl_N1, hl_SH]; done))
        have f_A_W5 : ∀ o, W5.frozen? ⟨g, o, none⟩ = false := by intro o; rw [← hW]; (first | with_reducible exact f_A o | (simp [go_sem, f_A]; done) | (simp [go_sem, f_A, hl_A]; done) | (go_simp; done) | (simp [go_sem, k_A_0, k_A_1, k_A_2, k_E_0, k_E_1, k_E_2, k_O_0, k_O_1, k_O_2, k_N1_0, k_N1_1, k_N1_2, k_SH_0, k_SH_1, k_SH_2, f_A, f_E, f_O, f_N1, f_SH, hl_A, hl_E, hl_O, hl_N1, hl_SH]; done))
        have HX_A_W5 := Lib.hid (show Bn W5 (g) by rw [← hW]; (repeat' (first | with_reducible exact Kp.refl _ _ | with_reducible exact HX_A.out | with_reducible exact HX_E.out | with_reducible exact HX_O.out | with_reducible exact HX_N1.out | with_reducible exact HX_SH.out | with_reducible apply Kp.alloc | with_reducible apply Kp.drew | (with_reducible refine Kp.put ?_ ?_ ?_ _; rotate_left; (focus (first | omega | (simp; done) | (simp; omega))); rotate_left) | (with_reducible refine Bn.new _ _ _ _ ?_ ?_; (focus (first | omega | (simp; done) | (simp; omega))); decide) | with_reducible apply Bn.alloc | with_reducible apply Bn.drew | with_reducible apply Bn.set)))
        have hl_E_W5 : g + 1 < W5.heap.size := by rw [← hW]; (first | omega | (simp; done) | (simp; omega))
        have k_E_0_W5 : W5.cell? ⟨g + 1, 0, none⟩ = some (.bool s8) := by rw [← hW]; (first | with_reducible exact k_E_0 | (simp [go_sem, k_E_0]; done) | (simp [go_sem, k_E_0, hl_E]; done) | (go_simp; done) | (simp [go_sem, k_A_0, k_A_1, k_A_2, k_E_0, k_E_1, k_E_2, k_O_0, k_O_1, k_O_2, k_N1_0, k_N1_1, k_N1_2, k_SH_0, k_SH_1, k_SH_2, f_A, f_E, f_O, f_N1, f_SH, hl_A, hl_E, hl_O, hl_N1, hl_SH]; done))
        have k_E_1_W5 : W5.cell? ⟨g + 1, 1, none⟩ = some (.slice a8 n8 c8) := by rw [← hW]; (first | with_reducible exact k_E_1 | (simp [go_sem, k_E_1]; done) | (simp [go_sem, k_E_1, hl_E]; done) | (go_simp; done) | (simp [go_sem, k_A_0, k_A_1, k_A_2, k_E_0, k_E_1, k_E_2, k_O_0, k_O_1, k_O_2, k_N1_0, k_N1_1, k_N1_2, k_SH_0, k_SH_1, k_SH_2, f_A, f_E, f_O, f_N1, f_SH, hl_A, hl_E, hl_O, hl_N1, hl_SH]; done))
        have k_E_2_W5 : W5.cell? ⟨g + 1, 2, none⟩ = some (.slice d8 m8 e8) := by rw [← hW]; (first | with_reducible exact k_E_2 | (simp [go_sem, k_E_2]; done) | (simp [go_sem, k_E_2, hl_E]; done) | (go_simp; done) | (simp [go_sem, k_A_0, k_A_1, k_A_2, k_E_0, k_E_1, k_E_2, k_O_0, k_O_1, k_O_2, k_N1_0, k_N1_1, k_N1_2, k_SH_0, k_SH_1, k_SH_2, f_A, f_E, f_O, f_N1, f_SH, hl_A, hl_E, hl_O, hl_N1, hl_SH]; done))
        have f_E_W5 : ∀ o, W5.frozen? ⟨g + 1, o, none⟩ = false := by intro o; rw [← hW]; (first | with_reducible exact f_E o | (simp [go_sem, f_E]; done) | (simp [go_sem, f_E, hl_E]; done) | (go_simp; done) | (simp [go_sem, k_A_0, k_A_1, k_A_2, k_E_0, k_E_1, k_E_2, k_O_0, k_O_1, k_O_2, k_N1_0, k_N1_1, k_N1_2, k_SH_0, k_SH_1, k_SH_2, f_A, f_E, f_O, f_N1, f_SH, hl_A, hl_E, hl_O, hl_N1, hl_SH]; done))
        have HX_E_W5 := Lib.hid (show Bn W5 (g + 1) by rw [← hW]; (repeat' (first | with_reducible exact Kp.refl _ _ | with_reducible exact HX_A.out | with_reducible exact HX_E.out | with_reducible exact HX_O.out | with_reducible exact HX_N1.out | with_reducible exact HX_SH.out | with_reducible apply Kp.alloc | with_reducible apply Kp.drew | (with_reducible refine Kp.put ?_ ?_ ?_ _; rotate_left; (focus (first | omega | (simp; done) | (simp; omega))); rotate_left) | (with_reducible refine Bn.new _ _ _ _ ?_ ?_; (focus (first | omega | (simp; done) | (simp; omega))); decide) | with_reducible apply Bn.alloc | with_reducible apply Bn.drew | with_reducible apply Bn.set)))
        have hl_O_W5 : g + 1 + 1 < W5.heap.size := by rw [← hW]; (first | omega | (simp; done) | (simp; omega))
        have k_O_0_W5 : W5.cell? ⟨g + 1 + 1, 0, none⟩ = some (.bool s9) := by rw [← hW]; (first | with_reducible exact k_O_0 | (simp [go_sem, k_O_0]; done) | (simp [go_sem, k_O_0, hl_O]; done) | (go_simp; done) | (simp [go_sem, k_A_0, k_A_1, k_A_2, k_E_0, k_E_1, k_E_2, k_O_0, k_O_1, k_O_2, k_N1_0, k_N1_1, k_N1_2, k_SH_0, k_SH_1, k_SH_2, f_A, f_E, f_O, f_N1, f_SH, hl_A, hl_E, hl_O, hl_N1, hl_SH]; done))
        have k_O_1_W5 : W5.cell? ⟨g + 1 + 1, 1, none⟩ = some (.slice a9 n9 c9) := by rw [← hW]; (first | with_reducible exact k_O_1 | (simp [go_sem, k_O_1]; done) | (simp [go_sem, k_O_1, hl_O]; done) | (go_simp; done) | (simp [go_sem, k_A_0, k_A_1, k_A_2, k_E_0, k_E_1, k_E_2, k_O_0, k_O_1, k_O_2, k_N1_0, k_N1_1, k_N1_2, k_SH_0, k_SH_1, k_SH_2, f_A, f_E, f_O, f_N1, f_SH, hl_A, hl_E, hl_O, hl_N1, hl_SH]; done))
        have k_O_2_W5 : W5.cell? ⟨g + 1 + 1, 2, none⟩ = some (.slice d9 m9 e9) := by rw [← hW]; (first | with_reducible exact k_O_2 | (simp [go_sem, k_O_2]; done) | (simp [go_sem, k_O_2, hl_O]; done) | (go_simp; done) | (simp [go_sem, k_A_0, k_A_1, k_A_2, k_E_0, k_E_1, k_E_2, k_O_0, k_O_1, k_O_2, k_N1_0, k_N1_1, k_N1_2, k_SH_0, k_SH_1, k_SH_2, f_A, f_E, f_O, f_N1, f_SH, hl_A, hl_E, hl_O, hl_N1, hl_SH]; done))
        have f_O_W5 : ∀ o, W5.frozen? ⟨g + 1 + 1, o, none⟩ = false := by intro o; rw [← hW]; (first | with_reducible exact f_O o | (simp [go_sem, f_O]; done) | (simp [go_sem, f_O, hl_O]; done) | (go_simp; done) | (simp [go_sem, k_A_0, k_A_1, k_A_2, k_E_0, k_E_1, k_E_2, k_O_0, k_O_1, k_O_2, k_N1_0, k_N1_1, k_N1_2, k_SH_0, k_SH_1, k_SH_2, f_A, f_E, f_O, f_N1, f_SH, hl_A, hl_E, hl_O, hl_N1, hl_SH]; done))
        have HX_O_W5 := Lib.hid (show Bn W5 (g + 1 + 1) by rw [← hW]; (repeat' (first | with_reducible exact Kp.refl _ _ | with_reducible exact HX_A.out | with_reducible exact HX_E.out | with_reducible exact HX_O.out | with_reducible exact HX_N1.out | with_reducible exact HX_SH.out | with_reducible apply Kp.alloc | with_reducible apply Kp.drew | (with_reducible refine Kp.put ?_ ?_ ?_ _; rotate_left; (focus (first | omega | (simp; done) | (simp; omega))); rotate_left) | (with_reducible refine Bn.new _ _ _ _ ?_ ?_; (focus (first | omega | (simp; done) | (simp; omega))); decide) | with_reducible apply Bn.alloc | with_reducible apply Bn.drew | with_reducible apply Bn.set)))
        have hl_N1_W5 : wa2.heap.size < W5.heap.size := by rw [← hW]; (first | omega | (simp; done) | (simp; omega))
        have k_N1_0_W5 : W5.cell? ⟨wa2.heap.size, 0, none⟩ = some (.bool (decide ((po).num < 0))) := by rw [← hW]; (first | with_reducible exact k_N1_0 | (simp [go_sem, k_N1_0]; done) | (simp [go_sem, k_N1_0, hl_N1]; done) | (go_simp; done) | (simp [go_sem, k_A_0, k_A_1, k_A_2, k_E_0, k_E_1, k_E_2, k_O_0, k_O_1, k_O_2, k_N1_0, k_N1_1, k_N1_2, k_SH_0, k_SH_1, k_SH_2, f_A, f_E, f_O, f_N1, f_SH, hl_A, hl_E, hl_O, hl_N1, hl_SH]; done))
        have k_N1_1_W5 : W5.cell? ⟨wa2.heap.size, 1, none⟩ = some (.slice ro (nlen (po).num.natAbs) co) := by rw [← hW]; (first | with_reducible exact k_N1_1 | (simp [go_sem, k_N1_1]; done) | (simp [go_sem, k_N1_1, hl_N1]; done) | (go_simp; done) | (simp [go_sem, k_A_0, k_A_1, k_A_2, k_E_0, k_E_1, k_E_2, k_O_0, k_O_1, k_O_2, k_N1_0, k_N1_1, k_N1_2, k_SH_0, k_SH_1, k_SH_2, f_A, f_E, f_O, f_N1, f_SH, hl_A, hl_E, hl_O, hl_N1, hl_SH]; done))
        have k_N1_2_W5 : W5.cell? ⟨wa2.heap.size, 2, none⟩ = some (.slice ro2 (nlen (po).den) co2) := by rw [← hW]; (first | with_reducible exact k_N1_2 | (simp [go_sem, k_N1_2]; done) | (simp [go_sem, k_N1_2, hl_N1]; done) | (go_simp; done) | (simp [go_sem, k_A_0, k_A_1, k_A_2, k_E_0, k_E_1, k_E_2, k_O_0, k_O_1, k_O_2, k_N1_0, k_N1_1, k_N1_2, k_SH_0, k_SH_1, k_SH_2, f_A, f_E, f_O, f_N1, f_SH, hl_A, hl_E, hl_O, hl_N1, hl_SH]; done))
        have f_N1_W5 : ∀ o, W5.frozen? ⟨wa2.heap.size, o, none⟩ = false := by intro o; rw [← hW]; (first | with_reducible exact f_N1 o | (simp [go_sem, f_N1]; done) | (simp [go_sem, f_N1, hl_N1]; done) | (go_simp; done) | (simp [go_sem, k_A_0, k_A_1, k_A_2, k_E_0, k_E_1, k_E_2, k_O_0, k_O_1, k_O_2, k_N1_0, k_N1_1, k_N1_2, k_SH_0, k_SH_1, k_SH_2, f_A, f_E, f_O, f_N1, f_SH, hl_A, hl_E, hl_O, hl_N1, hl_SH]; done))
        have HX_N1_W5 := Lib.hid (show Bn W5 (wa2.heap.size) by rw [← hW]; (repeat' (first | with_reducible exact Kp.refl _ _ | with_reducible exact HX_A.out | with_reducible exact HX_E.out | with_reducible exact HX_O.out | with_reducible exact HX_N1.out | with_reducible exact HX_SH.out | with_reducible apply Kp.alloc | with_reducible apply Kp.drew | (with_reducible refine Kp.put ?_ ?_ ?_ _; rotate_left; (focus (first | omega | (simp; done) | (simp; omega))); rotate_left) | (with_reducible refine Bn.new _ _ _ _ ?_ ?_; (focus (first | omega | (simp; done) | (simp; omega))); decide) | with_reducible apply Bn.alloc | with_reducible apply Bn.drew | with_reducible apply Bn.set)))
        have hl_SH_W5 : wb2.heap.size < W5.heap.size := by rw [← hW]; (first | omega | (simp; done) | (simp; omega))
        have k_SH_0_W5 : W5.cell? ⟨wb2.heap.size, 0, none⟩ = some (.bool (decide ((sh).num < 0))) := by rw [← hW]; (first | with_reducible exact k_SH_0 | (simp [go_sem, k_SH_0]; done) | (simp [go_sem, k_SH_0, hl_SH]; done) | (go_simp; done) | (simp [go_sem, k_A_0, k_A_1, k_A_2, k_E_0, k_E_1, k_E_2, k_O_0, k_O_1, k_O_2, k_N1_0, k_N1_1, k_N1_2, k_SH_0, k_SH_1, k_SH_2, f_A, f_E, f_O, f_N1, f_SH, hl_A, hl_E, hl_O, hl_N1, hl_SH]; done))
        have k_SH_1_W5 : W5.cell? ⟨wb2.heap.size, 1, none⟩ = some (.slice rs (nlen (sh).num.natAbs) cs) := by rw [← hW]; (first | with_reducible exact k_SH_1 | (simp [go_sem, k_SH_1]; done) | (simp [go_sem, k_SH_1, hl_SH]; done) | (go_simp; done) | (simp [go_sem, k_A_0, k_A_1, k_A_2, k_E_0, k_E_1, k_E_2, k_O_0, k_O_1, k_O_2, k_N1_0, k_N1_1, k_N1_2, k_SH_0, k_SH_1, k_SH_2, f_A, f_E, f_O, f_N1, f_SH, hl_A, hl_E, hl_O, hl_N1, hl_SH]; done))
        have k_SH_2_W5 : W5.cell? ⟨wb2.heap.size, 2, none⟩ = some (.slice rs2 (nlen (sh).den) cs2) := by rw [← hW]; (first | with_reducible exact k_SH_2 | (simp [go_sem, k_SH_2]; done) | (simp [go_sem, k_SH_2, hl_SH]; done) | (go_simp; done) | (simp [go_sem, k_A_0, k_A_1, k_A_2, k_E_0, k_E_1, k_E_2, k_O_0, k_O_1, k_O_2, k_N1_0, k_N1_1, k_N1_2, k_SH_0, k_SH_1, k_SH_2, f_A, f_E, f_O, f_N1, f_SH, hl_A, hl_E, hl_O, hl_N1, hl_SH]; done))
        have f_SH_W5 : ∀ o, W5.frozen? ⟨wb2.heap.size, o, none⟩ = false := by intro o; rw [← hW]; (first | with_reducible exact f_SH o | (simp [go_sem, f_SH]; done) | (simp [go_sem, f_SH, hl_SH]; done) | (go_simp; done) | (simp [go_sem, k_A_0, k_A_1, k_A_2, k_E_0, k_E_1, k_E_2, k_O_0, k_O_1, k_O_2, k_N1_0, k_N1_1, k_N1_2, k_SH_0, k_SH_1, k_SH_2, f_A, f_E, f_O, f_N1, f_SH, hl_A, hl_E, hl_O, hl_N1, hl_SH]; done))
        have HX_SH_W5 := Lib.hid (show Bn W5 (wb2.heap.size) by rw [← hW]; (repeat' (first | with_reducible exact Kp.refl _ _ | with_reducible exact HX_A.out | with_reducible exact HX_E.out | with_reducible exact HX_O.out | with_reducible exact HX_N1.out | with_reducible exact HX_SH.out | with_reducible apply Kp.alloc | with_reducible apply Kp.drew | (with_reducible refine Kp.put ?_ ?_ ?_ _; rotate_left; (focus (first | omega | (simp; done) | (simp; omega))); rotate_left) | (with_reducible refine Bn.new _ _ _ _ ?_ ?_; (focus (first | omega | (simp; done) | (simp; omega))); decide) | with_reducible apply Bn.alloc | with_reducible apply Bn.drew | with_reducible apply Bn.set)))
        have hl_FA_W5 : wc2.heap.size < W5.heap.size := by rw [← hW]; (first | omega | (simp; done) | (simp; omega))
        have k_FA_0_W5 : W5.cell? ⟨wc2.heap.size, 0, none⟩ = some (.bool (decide ((pf).num < 0))) := by rw [← hW]; (first | (go_simp; done) | (simp; done) | (simp [go_sem]; done) | (simp [go_sem, k_A_0, k_A_1, k_A_2, k_E_0, k_E_1, k_E_2, k_O_0, k_O_1, k_O_2, k_N1_0, k_N1_1, k_N1_2, k_SH_0, k_SH_1, k_SH_2, f_A, f_E, f_O, f_N1, f_SH, hl_A, hl_E, hl_O, hl_N1, hl_SH]; done))
        have k_FA_1_W5 : W5.cell? ⟨wc2.heap.size, 1, none⟩ = some (.slice rf (nlen (pf).num.natAbs) cf) := by rw [← hW]; (first | (go_simp; done) | (simp; done) | (simp [go_sem]; done) | (simp [go_sem, k_A_0, k_A_1, k_A_2, k_E_0, k_E_1, k_E_2, k_O_0, k_O_1, k_O_2, k_N1_0, k_N1_1, k_N1_2, k_SH_0, k_SH_1, k_SH_2, f_A, f_E, f_O, f_N1, f_SH, hl_A, hl_E, hl_O, hl_N1, hl_SH]; done))
        have k_FA_2_W5 : W5.cell? ⟨wc2.heap.size, 2, none⟩ = some (.slice rf2 (nlen (pf).den) cf2) := by rw [← hW]; (first | (go_simp; done) | (simp; done) | (simp [go_sem]; done) | (simp [go_sem, k_A_0, k_A_1, k_A_2, k_E_0, k_E_1, k_E_2, k_O_0, k_O_1, k_O_2, k_N1_0, k_N1_1, k_N1_2, k_SH_0, k_SH_1, k_SH_2, f_A, f_E, f_O, f_N1, f_SH, hl_A, hl_E, hl_O, hl_N1, hl_SH]; done))
        have f_FA_W5 : ∀ o, W5.frozen? ⟨wc2.heap.size, o, none⟩ = false := by intro o; rw [← hW]; (first | (go_simp; done) | (simp; done) | (simp [go_sem]; done) | (simp [go_sem, k_A_0, k_A_1, k_A_2, k_E_0, k_E_1, k_E_2, k_O_0, k_O_1, k_O_2, k_N1_0, k_N1_1, k_N1_2, k_SH_0, k_SH_1, k_SH_2, f_A, f_E, f_O, f_N1, f_SH, hl_A, hl_E, hl_O, hl_N1, hl_SH]; done))
        have HX_FA_W5 := Lib.hid (show Bn W5 (wc2.heap.size) by rw [← hW]; (repeat' (first | with_reducible exact Kp.refl _ _ | with_reducible exact HX_A.out | with_reducible exact HX_E.out | with_reducible exact HX_O.out | with_reducible exact HX_N1.out | with_reducible exact HX_SH.out | with_reducible apply Kp.alloc | with_reducible apply Kp.drew | (with_reducible refine Kp.put ?_ ?_ ?_ _; rotate_left; (focus (first | omega | (simp; done) | (simp; omega))); rotate_left) | (with_reducible refine Bn.new _ _ _ _ ?_ ?_; (focus (first | omega | (simp; done) | (simp; omega))); decide) | with_reducible apply Bn.alloc | with_reducible apply Bn.drew | with_reducible apply Bn.set)))
        have HK_W5 := Lib.hid (show Kp N wc2 W5 by rw [← hW]; (repeat' (first | with_reducible exact Kp.refl _ _ | with_reducible exact HX_A.out | with_reducible exact HX_E.out | with_reducible exact HX_O.out | with_reducible exact HX_N1.out | with_reducible exact HX_SH.out | with_reducible apply Kp.alloc | with_reducible apply Kp.drew | (with_reducible refine Kp.put ?_ ?_ ?_ _; rotate_left; (focus (first | omega | (simp; done) | (simp; omega))); rotate_left) | (with_reducible refine Bn.new _ _ _ _ ?_ ?_; (focus (first | omega | (simp; done) | (simp; omega))); decide) | with_reducible apply Bn.alloc | with_reducible apply Bn.drew | with_reducible apply Bn.set)))
        have HX1_W5 := Lib.hid (HX1.out.keep HK_W5.out)
        have HX2_W5 := Lib.hid (HX2.out.keep HK_W5.out)
        have HR8_W5 := Lib.hid (HR8.out.keep HK_W5.out)
        have HR9_W5 := Lib.hid (HR9.out.keep HK_W5.out)
        have HO1_W5 := Lib.hid (HO1.out.keep HK_W5.out)
        have HO2_W5 := Lib.hid (HO2.out.keep HK_W5.out)
        have HS1_W5 := Lib.hid (HS1.out.keep HK_W5.out)
        have HS2_W5 := Lib.hid (HS2.out.keep HK_W5.out)
        have HF1_W5 := Lib.hid (HF1.out.keep HK_W5.out)
        have HF2_W5 := Lib.hid (HF2.out.keep HK_W5.out)
        have HB_W5 := Lib.hid (show Below w.heap.size w W5 by rw [← hW]; (repeat' (first | with_reducible exact Below.refl _ _ | with_reducible exact HB.out | (with_reducible refine Below.alloc ?_ ?_ _; rotate_left; (focus (first | omega | (simp; done) | (simp; omega)))) | with_reducible apply Below.drew | (with_reducible refine Below.setCell ?_ ?_ _; rotate_left; (focus (first | omega | (simp; done) | (simp; omega)))))))
        clear hW HK_W5
        clear hl_A f_A HX_A k_A_0 k_A_1 k_A_2 hl_E f_E HX_E k_E_0 k_E_1 k_E_2 hl_O f_O HX_O k_O_0 k_O_1 k_O_2 hl_N1 f_N1 HX_N1 k_N1_0 k_N1_1 k_N1_2 hl_SH f_SH HX_SH k_SH_0 k_SH_1 k_SH_2 HX1 HX2 HR8 HR9 HO1 HO2 HS1 HS2 HF1 HF2 HB hN hs0
        have hN := hN_W5
        have HB := HB_W5
        have hs0 := hs0_W5
        have hl_A := hl_A_W5
        have f_A := f_A_W5
        have HX_A := HX_A_W5
        have k_A_0 := k_A_0_W5
        have k_A_1 := k_A_1_W5
        have k_A_2 := k_A_2_W5
        have hl_E := hl_E_W5
        have f_E := f_E_W5
        have HX_E := HX_E_W5
        have k_E_0 := k_E_0_W5
        have k_E_1 := k_E_1_W5
        have k_E_2 := k_E_2_W5
        have hl_O := hl_O_W5
        have f_O := f_O_W5
        have HX_O := HX_O_W5
        have k_O_0 := k_O_0_W5
        have k_O_1 := k_O_1_W5
        have k_O_2 := k_O_2_W5
        have hl_N1 := hl_N1_W5
        have f_N1 := f_N1_W5
        have HX_N1 := HX_N1_W5
        have k_N1_0 := k_N1_0_W5
        have k_N1_1 := k_N1_1_W5
        have k_N1_2 := k_N1_2_W5
        have hl_SH := hl_SH_W5
        have f_SH := f_SH_W5
        have HX_SH := HX_SH_W5
        have k_SH_0 := k_SH_0_W5
        have k_SH_1 := k_SH_1_W5
        have k_SH_2 := k_SH_2_W5
        have hl_FA := hl_FA_W5
        have f_FA := f_FA_W5
        have HX_FA := HX_FA_W5
        have k_FA_0 := k_FA_0_W5
        have k_FA_1 := k_FA_1_W5
        have k_FA_2 := k_FA_2_W5
        have HX1 := HX1_W5
        have HX2 := HX2_W5
        have HR8 := HR8_W5
        have HR9 := HR9_W5
        have HO1 := HO1_W5
        have HO2 := HO2_W5
        have HS1 := HS1_W5
        have HS2 := HS2_W5
        have HF1 := HF1_W5
        have HF2 := HF2_W5
        clear hN_W5 HB_W5 hs0_W5 hl_A_W5 f_A_W5 HX_A_W5 k_A_0_W5 k_A_1_W5 k_A_2_W5 hl_E_W5 f_E_W5 HX_E_W5 k_E_0_W5 k_E_1_W5 k_E_2_W5 hl_O_W5 f_O_W5 HX_O_W5 k_O_0_W5 k_O_1_W5 k_O_2_W5 hl_N1_W5 f_N1_W5 HX_N1_W5 k_N1_0_W5 k_N1_1_W5 k_N1_2_W5 hl_SH_W5 f_SH_W5 HX_SH_W5 k_SH_0_W5 k_SH_1_W5 k_SH_2_W5 hl_FA_W5 f_FA_W5 HX_FA_W5 k_FA_0_W5 k_FA_1_W5 k_FA_2_W5 HX1_W5 HX2_W5 HR8_W5 HR9_W5 HO1_W5 HO2_W5 HS1_W5 HS2_W5 HF1_W5 HF2_W5
        refine (error_ok (N := N) _ _ _ ra rn rc z _ hN (HR.out.below HB.out) v p2 HREL.out HSv.out HSp.out pm HPm.out).mono ?_
        rintro e wd2 ⟨rm, cm, rm2, cm2, rfl, hn, hn', hb⟩
        have hN_wd2 : N ≤ wd2.heap.size := Nat.le_trans hN hb.size
        have hs_wd2 : W5.heap.size ≤ wd2.heap.size := hb.size
        have hs0_wd2 : w.heap.size ≤ wd2.heap.size := Nat.le_trans hs0 hb.size
        have hl_A_wd2 : g < wd2.heap.size := Nat.lt_of_lt_of_le hl_A hb.size
        have k_A_0_wd2 : wd2.cell? ⟨g, 0, none⟩ = some (.bool (decide ((p2).num < 0))) := (hb.cell (p := ⟨g, 0, none⟩) hl_A).trans k_A_0
        have k_A_1_wd2 : wd2.cell? ⟨g, 1, none⟩ = some (.slice rx (nlen (p2).num.natAbs) cx) := (hb.cell (p := ⟨g, 1, none⟩) hl_A).trans k_A_1
        have k_A_2_wd2 : wd2.cell? ⟨g, 2, none⟩ = some (.slice rx2 (nlen (p2).den) cx2) := (hb.cell (p := ⟨g, 2, none⟩) hl_A).trans k_A_2
        have f_A_wd2 : ∀ o, wd2.frozen? ⟨g, o, none⟩ = false := fun o => (hb.frozen (p := ⟨g, o, none⟩) hl_A).trans (f_A o)
        have HX_A_wd2 := Lib.hid (HX_A.out.below hb)
        have hl_E_wd2 : g + 1 < wd2.heap.size := Nat.lt_of_lt_of_le hl_E hb.size
        have k_E_0_wd2 : wd2.cell? ⟨g + 1, 0, none⟩ = some (.bool s8) := (hb.cell (p := ⟨g + 1, 0, none⟩) hl_E).trans k_E_0
        have k_E_1_wd2 : wd2.cell? ⟨g + 1, 1, none⟩ = some (.slice a8 n8 c8) := (hb.cell (p := ⟨g + 1, 1, none⟩) hl_E).trans k_E_1
        have k_E_2_wd2 : wd2.cell? ⟨g + 1, 2, none⟩ = some (.slice d8 m8 e8) := (hb.cell (p := ⟨g + 1, 2, none⟩) hl_E).trans k_E_2
        have f_E_wd2 : ∀ o, wd2.frozen? ⟨g + 1, o, none⟩ = false := fun o => (hb.frozen (p := ⟨g + 1, o, none⟩) hl_E).trans (f_E o)
        have HX_E_wd2 := Lib.hid (HX_E.out.below hb)
        have hl_O_wd2 : g + 1 + 1 < wd2.heap.size := Nat.lt_of_lt_of_le hl_O hb.size
        have k_O_0_wd2 : wd2.cell? ⟨g + 1 + 1, 0, none⟩ = some (.bool s9) := (hb.cell (p := ⟨g + 1 + 1, 0, none⟩) hl_O).trans k_O_0
        have k_O_1_wd2 : wd2.cell? ⟨g + 1 + 1, 1, none⟩ = some (.slice a9 n9 c9) := (hb.cell (p := ⟨g + 1 + 1, 1, none⟩) hl_O).trans k_O_1
        have k_O_2_wd2 : wd2.cell? ⟨g + 1 + 1, 2, none⟩ = some (.slice d9 m9 e9) := (hb.cell (p := ⟨g + 1 + 1, 2, none⟩) hl_O).trans k_O_2
        have f_O_wd2 : ∀ o, wd2.frozen? ⟨g + 1 + 1, o, none⟩ = false := fun o => (hb.frozen (p := ⟨g + 1 + 1, o, none⟩) hl_O).trans (f_O o)
        have HX_O_wd2 := Lib.hid (HX_O.out.below hb)
        have hl_N1_wd2 : wa2.heap.size < wd2.heap.size := Nat.lt_of_lt_of_le hl_N1 hb.size
        have k_N1_0_wd2 : wd2.cell? ⟨wa2.heap.size, 0, none⟩ = some (.bool (decide ((po).num < 0))) := (hb.cell (p := ⟨wa2.heap.size, 0, none⟩) hl_N1).trans k_N1_0
        have k_N1_1_wd2 : wd2.cell? ⟨wa2.heap.size, 1, none⟩ = some (.slice ro (nlen (po).num.natAbs) co) := (hb.cell (p := ⟨wa2.heap.size, 1, none⟩) hl_N1).trans k_N1_1
        have k_N1_2_wd2 : wd2.cell? ⟨wa2.heap.size, 2, none⟩ = some (.slice ro2 (nlen (po).den) co2) := (hb.cell (p := ⟨wa2.heap.size, 2, none⟩) hl_N1).trans k_N1_2
        have f_N1_wd2 : ∀ o, wd2.frozen? ⟨wa2.heap.size, o, none⟩ = false := fun o => (hb.frozen (p := ⟨wa2.heap.size, o, none⟩) hl_N1).trans (f_N1 o)
        have HX_N1_wd2 := Lib.hid (HX_N1.out.below hb)
        have hl_SH_wd2 : wb2.heap.size < wd2.heap.size := Nat.lt_of_lt_of_le hl_SH hb.size
        have k_SH_0_wd2 : wd2.cell? ⟨wb2.heap.size, 0, none⟩ = some (.bool (decide ((sh).num < 0))) := (hb.cell (p := ⟨wb2.heap.size, 0, none⟩) hl_SH).trans k_SH_0
        have k_SH_1_wd2 : wd2.cell? ⟨wb2.heap.size, 1, none⟩ = some (.slice rs (nlen (sh).num.natAbs) cs) := (hb.cell (p := ⟨wb2.heap.size, 1, none⟩) hl_SH).trans k_SH_1
        have k_SH_2_wd2 : wd2.cell? ⟨wb2.heap.size, 2, none⟩ = some (.slice rs2 (nlen (sh).den) cs2) := (hb.cell (p := ⟨wb2.heap.size, 2, none⟩) hl_SH).trans k_SH_2
        have f_SH_wd2 : ∀ o, wd2.frozen? ⟨wb2.heap.size, o, none⟩ = false := fun o => (hb.frozen (p := ⟨wb2.heap.size, o, none⟩) hl_SH).trans (f_SH o)
        have HX_SH_wd2 := Lib.hid (HX_SH.out.below hb)
        have hl_FA_wd2 : wc2.heap.size < wd2.heap.size := Nat.lt_of_lt_of_le hl_FA hb.size
        have k_FA_0_wd2 : wd2.cell? ⟨wc2.heap.size, 0, none⟩ = some (.bool (decide ((pf).num < 0))) := (hb.cell (p := ⟨wc2.heap.size, 0, none⟩) hl_FA).trans k_FA_0
        have k_FA_1_wd2 : wd2.cell? ⟨wc2.heap.size, 1, none⟩ = some (.slice rf (nlen (pf).num.natAbs) cf) := (hb.cell (p := ⟨wc2.heap.size, 1, none⟩) hl_FA).trans k_FA_1
        have k_FA_2_wd2 : wd2.cell? ⟨wc2.heap.size, 2, none⟩ = some (.slice rf2 (nlen (pf).den) cf2) := (hb.cell (p := ⟨wc2.heap.size, 2, none⟩) hl_FA).trans k_FA_2
        have f_FA_wd2 : ∀ o, wd2.frozen? ⟨wc2.heap.size, o, none⟩ = false := fun o => (hb.frozen (p := ⟨wc2.heap.size, o, none⟩) hl_FA).trans (f_FA o)
        have HX_FA_wd2 := Lib.hid (HX_FA.out.below hb)
        have HX1_wd2 := Lib.hid (HX1.out.below hb)
        have HX2_wd2 := Lib.hid (HX2.out.below hb)
        have HR8_wd2 := Lib.hid (HR8.out.below hb)
        have HR9_wd2 := Lib.hid (HR9.out.below hb)
        have HO1_wd2 := Lib.hid (HO1.out.below hb)
        have HO2_wd2 := Lib.hid (HO2.out.below hb)
        have HS1_wd2 := Lib.hid (HS1.out.below hb)
        have HS2_wd2 := Lib.hid (HS2.out.below hb)
        have HF1_wd2 := Lib.hid (HF1.out.below hb)
        have HF2_wd2 := Lib.hid (HF2.out.below hb)
        have HB_wd2 := Lib.hid (HB.out.trans (hb.mono hs0))
        clear hb
        clear hl_A f_A HX_A k_A_0 k_A_1 k_A_2 hl_E f_E HX_E k_E_0 k_E_1 k_E_2 hl_O f_O HX_O k_O_0 k_O_1 k_O_2 hl_N1 f_N1 HX_N1 k_N1_0 k_N1_1 k_N1_2 hl_SH f_SH HX_SH k_SH_0 k_SH_1 k_SH_2 hl_FA f_FA HX_FA k_FA_0 k_FA_1 k_FA_2 HX1 HX2 HR8 HR9 HO1 HO2 HS1 HS2 HF1 HF2 HB hN hs0
        have hN := hN_wd2
        have HB := HB_wd2
        have hs0 := hs0_wd2
        have hl_A := hl_A_wd2
        have f_A := f_A_wd2
        have HX_A := HX_A_wd2
        have k_A_0 := k_A_0_wd2
        have k_A_1 := k_A_1_wd2
        have k_A_2 := k_A_2_wd2
        have hl_E := hl_E_wd2
        have f_E := f_E_wd2
        have HX_E := HX_E_wd2
        have k_E_0 := k_E_0_wd2
        have k_E_1 := k_E_1_wd2
        have k_E_2 := k_E_2_wd2
        have hl_O := hl_O_wd2
        have f_O := f_O_wd2
        have HX_O := HX_O_wd2
        have k_O_0 := k_O_0_wd2
        have k_O_1 := k_O_1_wd2
        have k_O_2 := k_O_2_wd2
        have hl_N1 := hl_N1_wd2
        have f_N1 := f_N1_wd2
        have HX_N1 := HX_N1_wd2
        have k_N1_0 := k_N1_0_wd2
        have k_N1_1 := k_N1_1_wd2
        have k_N1_2 := k_N1_2_wd2
        have hl_SH := hl_SH_wd2
        have f_SH := f_SH_wd2
        have HX_SH := HX_SH_wd2
        have k_SH_0 := k_SH_0_wd2
        have k_SH_1 := k_SH_1_wd2
        have k_SH_2 := k_SH_2_wd2
        have hl_FA := hl_FA_wd2
        have f_FA := f_FA_wd2
        have HX_FA := HX_FA_wd2
        have k_FA_0 := k_FA_0_wd2
        have k_FA_1 := k_FA_1_wd2
        have k_FA_2 := k_FA_2_wd2
        have HX1 := HX1_wd2
        have HX2 := HX2_wd2
        have HR8 := HR8_wd2
        have HR9 := HR9_wd2
        have HO1 := HO1_wd2
        have HO2 := HO2_wd2
        have HS1 := HS1_wd2
        have HS2 := HS2_wd2
        have HF1 := HF1_wd2
        have HF2 := HF2_wd2
        clear hN_wd2 HB_wd2 hs0_wd2 hl_A_wd2 f_A_wd2 HX_A_wd2 k_A_0_wd2 k_A_1_wd2 k_A_2_wd2 hl_E_wd2 f_E_wd2 HX_E_wd2 k_E_0_wd2 k_E_1_wd2 k_E_2_wd2 hl_O_wd2 f_O_wd2 HX_O_wd2 k_O_0_wd2 k_O_1_wd2 k_O_2_wd2 hl_N1_wd2 f_N1_wd2 HX_N1_wd2 k_N1_0_wd2 k_N1_1_wd2 k_N1_2_wd2 hl_SH_wd2 f_SH_wd2 HX_SH_wd2 k_SH_0_wd2 k_SH_1_wd2 k_SH_2_wd2 hl_FA_wd2 f_FA_wd2 HX_FA_wd2 k_FA_0_wd2 k_FA_1_wd2 k_FA_2_wd2 HX1_wd2 HX2_wd2 HR8_wd2 HR9_wd2 HO1_wd2 HO2_wd2 HS1_wd2 HS2_wd2 HF1_wd2 HF2_wd2
        have HM1 := Lib.hid hn
        clear hn
        have HM2 := Lib.hid hn'
        clear hn'
        go_wp2_with fail
        refine region_name fun W6 hW => ?_
        have hN_W6 : N ≤ W6.heap.size := by rw [← hW]; (first | omega | (simp; done) | (simp; omega))
        have hs_W6 : wd2.heap.size ≤ W6.heap.size := by rw [← hW]; (first | omega | (simp; done) | (simp; omega))
        have hs0_W6 : w.heap.size ≤ W6.heap.size := by rw [← hW]; (first | omega | (simp; done) | (simp; omega))
        have hd_A_M : g < wd2.heap.size := by omega
        have hd_E_M : g + 1 < wd2.heap.size := by omega
        have hd_O_M : g + 1 + 1 < wd2.heap.size := by omega
        have hd_N1_M : wa2.heap.size < wd2.heap.size := by omega
        have hd_SH_M : wb2.heap.size < wd2.heap.size := by omega
        have hd_FA_M : wc2.heap.size < wd2.heap.size := by omega
        have hl_A_W6 : g < W6.heap.size := by rw [← hW]; (first | omega | (simp; done) | (simp; omega))
        have k_A_0_W6 : W6.cell? ⟨g, 0, none⟩ = some (.bool (decide ((p2).num < 0))) := by rw [← hW]; (first | with_reducible exact k_A_0 | (simp [go_sem, k_A_0]; done) | (simp [go_sem, k_A_0, hl_A]; done) | (go_simp; done) | (simp [go_sem, k_A_0, k_A_1, k_A_2, k_E_0, k_E_1, k_E_2, k_O_0, k_O_1, k_O_2, k_N1_0, k_N1_1, k_N1_2, k_SH_0, k_SH_1, k_SH_2, k_FA_0, k_FA_1, k_FA_2, f_A, f_E, f_O, f_N1, f_SH, f_FA, hl_A, hl_E, hl_O, hl_N1, hl_SH, hl_FA]; done))
        have k_A_1_W6 : W6.cell? ⟨g, 1, none⟩ = some (.slice rx (nlen (p2).num.natAbs) cx) := by rw [← hW]; (first | with_reducible exact k_A_1 | (simp [go_sem, k_A_1]; done) | (simp [go_sem, k_A_1, hl_A]; done) | (go_simp; done) | (simp [go_sem, k_A_0, k_A_1, k_A_2, k_E_0, k_E_1, k_E_2, k_O_0, k_O_1, k_O_2, k_N1_0, k_N1_1, k_N1_2, k_SH_0, k_SH_1, k_SH_2, k_FA_0, k_FA_1, k_FA_2, f_A, f_E, f_O, f_N1, f_SH, f_FA, hl_A, hl_E, hl_O, hl_N1, hl_SH, hl_FA]; done))
        have k_A_2_W6 : W6.cell? ⟨g, 2, none⟩ = some (.slice rx2 (nlen (p2).den) cx2) := by rw [← hW]; (first | with_reducible exact k_A_2 | (simp [go_sem, k_A_2]; done) | (simp [go_sem, k_A_2, hl_A]; done) | (go_simp; done) | (simp [go_sem, k_A_0, k_A_1, k_A_2, k_E_0, k_E_1, k_E_2, k_O_0, k_O_1, k_O_2, k_N1_0, k_N1_1, k_N1_2, k_SH_0, k_SH_1, k_SH_2, k_FA_0, k_FA_1, k_FA_2, f_A, f_E, f_O, f_N1, f_SH, f_FA, hl_A, hl_E, hl_O, hl_N1, hl_SH, hl_FA]; done))
        have f_A_W6 : ∀ o, W6.frozen? ⟨g, o, none⟩ = false := by intro o; rw [← hW]; (first | with_reducible exact f_A o | (simp [go_sem, f_A]; done) | (simp [go_sem, f_A, hl_A]; done) | (go_simp; done) | (simp [go_sem, k_A_0, k_A_1, k_A_2, k_E_0, k_E_1, k_E_2, k_O_0, k_O_1, k_O_2, k_N1_0, k_N1_1, k_N1_2, k_SH_0, k_SH_1, k_SH_2, k_FA_0, k_FA_1, k_FA_2, f_A, f_E, f_O, f_N1, f_SH, f_FA, hl_A, hl_E, hl_O, hl_N1, hl_SH, hl_FA]; done))
        have HX_A_W6 := Lib.hid (show Bn W6 (g) by rw [← hW]; (repeat' (first | with_reducible exact Kp.refl _ _ | with_reducible exact HX_A.out | with_reducible exact HX_E.out | with_reducible exact HX_O.out | with_reducible exact HX_N1.out | with_reducible exact HX_SH.out | with_reducible exact HX_FA.out | with_reducible apply Kp.alloc | with_reducible apply Kp.drew | (with_reducible refine Kp.put ?_ ?_ ?_ _; rotate_left; (focus (first | omega | (simp; done) | (simp; omega))); rotate_left) | (with_reducible refine Bn.new _ _ _ _ ?_ ?_; (focus (first | omega | (simp; done) | (simp; omega))); decide) | with_reducible apply Bn.alloc | with_reducible apply Bn.drew | with_reducible apply Bn.set)))
        have hl_E_W6 : g + 1 < W6.heap.size := by rw [← hW]; (first | omega | (simp; done) | (simp; omega))
        have k_E_0_W6 : W6.cell? ⟨g + 1, 0, none⟩ = some (.bool s8) := by rw [← hW]; (first | with_reducible exact k_E_0 | (simp [go_sem, k_E_0]; done) | (simp [go_sem, k_E_0, hl_E]; done) | (go_simp; done) | (simp [go_sem, k_A_0, k_A_1, k_A_2, k_E_0, k_E_1, k_E_2, k_O_0, k_O_1, k_O_2, k_N1_0, k_N1_1, k_N1_2, k_SH_0, k_SH_1, k_SH_2, k_FA_0, k_FA_1, k_FA_2, f_A, f_E, f_O, f_N1, f_SH, f_FA, hl_A, hl_E, hl_O, hl_N1, hl_SH, hl_FA]; done))
        have k_E_1_W6 : W6.cell? ⟨g + 1, 1, none⟩ = some (.slice a8 n8 c8) := by rw [← hW]; (first | with_reducible exact k_E_1 | (simp [go_sem, k_E_1]; done) | (simp [go_sem, k_E_1, hl_E]; done) | (go_simp; done) | (simp [go_sem, k_A_0, k_A_1, k_A_2, k_E_0, k_E_1, k_E_2, k_O_0, k_O_1, k_O_2, k_N1_0, k_N1_1, k_N1_2, k_SH_0, k_SH_1, k_SH_2, k_FA_0, k_FA_1, k_FA_2, f_A, f_E, f_O, f_N1, f_SH, f_FA, hl_A, hl_E, hl_O, hl_N1, hl_SH, hl_FA]; done))
        have k_E_2_W6 : W6.cell? ⟨g + 1, 2, none⟩ = some (.slice d8 m8 e8) := by rw [← hW]; (first | with_reducible exact k_E_2 | (simp [go_sem, k_E_2]; done) | (simp [go_sem, k_E_2, hl_E]; done) | (go_simp; done) | (simp [go_sem, k_A_0, k_A_1, k_A_2, k_E_0, k_E_1, k_E_2, k_O_0, k_O_1, k_O_2, k_N1_0, k_N1_1, k_N1_2, k_SH_0, k_SH_1, k_SH_2, k_FA_0, k_FA_1, k_FA_2, f_A, f_E, f_O, f_N1, f_SH, f_FA, hl_A, hl_E, hl_O, hl_N1, hl_SH, hl_FA]; done))
        have f_E_W6 : ∀ o, W6.frozen? ⟨g + 1, o, none⟩ = false := by intro o; rw [← hW]; (first | with_reducible exact f_E o | (simp [go_sem, f_E]; done) | (simp [go_sem, f_E, hl_E]; done) | (go_simp; done) | (simp [go_sem, k_A_0, k_A_1, k_A_2, k_E_0, k_E_1, k_E_2, k_O_0, k_O_1, k_O_2, k_N1_0, k_N1_1, k_N1_2, k_SH_0, k_SH_1, k_SH_2, k_FA_0, k_FA_1, k_FA_2, f_A, f_E, f_O, f_N1, f_SH, f_FA, hl_A, hl_E, hl_O, hl_N1, hl_SH, hl_FA]; done))
        have HX_E_W6 := Lib.hid (show Bn W6 (g + 1) by rw [← hW]; (repeat' (first | with_reducible exact Kp.refl _ _ | with_reducible exact HX_A.out | with_reducible exact HX_E.out | with_reducible exact HX_O.out | with_reducible exact HX_N1.out | with_reducible exact HX_SH.out | with_reducible exact HX_FA.out | with_reducible apply Kp.alloc | with_reducible apply Kp.drew | (with_reducible refine Kp.put ?_ ?_ ?_ _; rotate_left; (focus (first | omega | (simp; done) | (simp; omega))); rotate_left) | (with_reducible refine Bn.new _ _ _ _ ?_ ?_; (focus (first | omega | (simp; done) | (simp; omega))); decide) | with_reducible apply Bn.alloc | with_reducible apply Bn.drew | with_reducible apply Bn.set)))
        have hl_O_W6 : g + 1 + 1 < W6.heap.size := by rw [← hW]; (first | omega | (simp; done) | (simp; omega))
        have k_O_0_W6 : W6.cell? ⟨g + 1 + 1, 0, none⟩ = some (.bool s9) := by rw [← hW]; (first | with_reducible exact k_O_0 | (simp [go_sem, k_O_0]; done) | (simp [go_sem, k_O_0, hl_O]; done) | (go_simp; done) | (simp [go_sem, k_A_0, k_A_1, k_A_2, k_E_0, k_E_1, k_E_2, k_O_0, k_O_1, k_O_2, k_N1_0, k_N1_1, k_N1_2, k_SH_0, k_SH_1, k_SH_2, k_FA_0, k_FA_1, k_FA_2, f_A, f_E, f_O, f_N1, f_SH, f_FA, hl_A, hl_E, hl_O, hl_N1, hl_SH, hl_FA]; done))
        have k_O_1_W6 : W6.cell? ⟨g + 1 + 1, 1, none⟩ = some (.slice a9 n9 c9) := by rw [← hW]; (first | with_reducible exact k_O_1 | (simp [go_sem, k_O_1]; done) | (simp [go_sem, k_O_1, hl_O]; done) | (go_simp; done) | (simp [go_sem, k_A_0, k_A_1, k_A_2, k_E_0, k_E_1, k_E_2, k_O_0, k_O_1, k_O_2, k_N1_0, k_N1_1, k_N1_2, k_SH_0, k_SH_1, k_SH_2, k_FA_0, k_FA_1, k_FA_2, f_A, f_E, f_O, f_N1, f_SH, f_FA, hl_A, hl_E, hl_O, hl_N1, hl_SH, hl_FA]; done))
        have k_O_2_W6 : W6.cell? ⟨g + 1 + 1, 2, none⟩ = some (.slice d9 m9 e9) := by rw [← hW]; (first | with_reducible exact k_O_2 | (simp [go_sem, k_O_2]; done) | (simp [go_sem, k_O_2, hl_O]; done) | (go_simp; done) | (simp [go_sem, k_A_0, k_A_1, k_A_2, k_E_0, k_E_1, k_E_2, k_O_0, k_O_1, k_O_2, k_N1_0, k_N1_1, k_N1_2, k_SH_0, k_SH_1, k_SH_2, k_FA_0, k_FA_1, k_FA_2, f_A, f_E, f_O, f_N1, f_SH, f_FA, hl_A, hl_E, hl_O, hl_N1, hl_SH, hl_FA]; done))
        have f_O_W6 : ∀ o, W6.frozen? ⟨g + 1 + 1, o, none⟩ = false := by intro o; rw [← hW]; (first | with_reducible exact f_O o | (simp [go_sem, f_O]; done) | (simp [go_sem, f_O, hl_O]; done) | (go_simp; done) | (simp [go_sem, k_A_0, k_A_1, k_A_2, k_E_0, k_E_1, k_E_2, k_O_0, k_O_1, k_O_2, k_N1_0, k_N1_1, k_N1_2, k_SH_0, k_SH_1, k_SH_2, k_FA_0, k_FA_1, k_FA_2, f_A, f_E, f_O, f_N1, f_SH, f_FA, hl_A, hl_E, hl_O, hl_N1, hl_SH, hl_FA]; done))
        have HX_O_W6 := Lib.hid (show Bn W6 (g + 1 + 1) by rw [← hW]; (repeat' (first | with_reducible exact Kp.refl _ _ | with_reducible exact HX_A.out | with_reducible exact HX_E.out | with_reducible exact HX_O.out | with_reducible exact HX_N1.out | with_reducible exact HX_SH.out | with_reducible exact HX_FA.out | with_reducible apply Kp.alloc | with_reducible apply Kp.drew | (with_reducible refine Kp.put ?_ ?_ ?_ _; rotate_left; (focus (first | omega | (simp; done) | (simp; omega))); rotate_left) | (with_reducible refine Bn.new _ _ _ _ ?_ ?_; (focus (first | omega | (simp; done) | (simp; omega))); decide) | with_reducible apply Bn.alloc | with_reducible apply Bn.drew | with_reducible apply Bn.set)))
        have hl_N1_W6 : wa2.heap.size < W6.heap.size := by rw [← hW]; (first | omega | (simp; done) | (simp; omega))
        have k_N1_0_W6 : W6.cell? ⟨wa2.heap.size, 0, none⟩ = some (.bool (decide ((po).num < 0))) := by rw [← hW]; (first | with_reducible exact k_N1_0 | (simp [go_sem, k_N1_0]; done) | (simp [go_sem, k_N1_0, hl_N1]; done) | (go_simp; done) | (simp [go_sem, k_A_0, k_A_1, k_A_2, k_E_0, k_E_1, k_E_2, k_O_0, k_O_1, k_O_2, k_N1_0, k_N1_1, k_N1_2, k_SH_0, k_SH_1, k_SH_2, k_FA_0, k_FA_1, k_FA_2, f_A, f_E, f_O, f_N1, f_SH, f_FA, hl_A, hl_E, hl_O, hl_N1, hl_SH, hl_FA]; done))
        have k_N1_1_W6 : W6.cell? ⟨wa2.heap.size, 1, none⟩ = some (.slice ro (nlen (po).num.natAbs) co) := by rw [← hW]; (first | with_reducible exact k_N1_1 | (simp [go_sem, k_N1_1]; done) | (simp [go_sem, k_N1_1, hl_N1]; done) | (go_simp; done) | (simp [go_sem, k_A_0, k_A_1, k_A_2, k_E_0, k_E_1, k_E_2, k_O_0, k_O_1, k_O_2, k_N1_0, k_N1_1, k_N1_2, k_SH_0, k_SH_1, k_SH_2, k_FA_0, k_FA_1, k_FA_2, f_A, f_E, f_O, f_N1, f_SH, f_FA, hl_A, hl_E, hl_O, hl_N1, hl_SH, hl_FA]; done))
        have k_N1_2_W6 : W6.cell? ⟨wa2.heap.size, 2, none⟩ = some (.slice ro2 (nlen (po).den) co2) := by rw [← hW]; (first | with_reducible exact k_N1_2 | (simp [go_sem, k_N1_2]; done) | (simp [go_sem, k_N1_2, hl_N1]; done) | (go_simp; done) | (simp [go_sem, k_A_0, k_A_1, k_A_2, k_E_0, k_E_1, k_E_2, k_O_0, k_O_1, k_O_2, k_N1_0, k_N1_1, k_N1_2, k_SH_0, k_SH_1, k_SH_2, k_FA_0, k_FA_1, k_FA_2, f_A, f_E, f_O, f_N1, f_SH, f_FA, hl_A, hl_E, hl_O, hl_N1, hl_SH, hl_FA]; done))
        have f_N1_W6 : ∀ o, W6.frozen? ⟨wa2.heap.size, o, none⟩ = false := by intro o; rw [← hW]; (first | with_reducible exact f_N1 o | (simp [go_sem, f_N1]; done) | (simp [go_sem, f_N1, hl_N1]; done) | (go_simp; done) | (simp [go_sem, k_A_0, k_A_1, k_A_2, k_E_0, k_E_1, k_E_2, k_O_0, k_O_1, k_O_2, k_N1_0, k_N1_1, k_N1_2, k_SH_0, k_SH_1, k_SH_2, k_FA_0, k_FA_1, k_FA_2, f_A, f_E, f_O, f_N1, f_SH, f_FA, hl_A, hl_E, hl_O, hl_N1, hl_SH, hl_FA]; done))
        have HX_N1_W6 := Lib.hid (show Bn W6 (wa2.heap.size) by rw [← hW]; (repeat' (first | with_reducible exact Kp.refl _ _ | with_reducible exact HX_A.out | with_reducible exact HX_E.out | with_reducible exact HX_O.out | with_reducible exact HX_N1.out | with_reducible exact HX_SH.out | with_reducible exact HX_FA.out | with_reducible apply Kp.alloc | with_reducible apply Kp.drew | (with_reducible refine Kp.put ?_ ?_ ?_ _; rotate_left; (focus (first | omega | (simp; done) | (simp; omega))); rotate_left) | (with_reducible refine Bn.new _ _ _ _ ?_ ?_; (focus (first | omega | (simp; done) | (simp; omega))); decide) | with_reducible apply Bn.alloc | with_reducible apply Bn.drew | with_reducible apply Bn.set)))
        have hl_SH_W6 : wb2.heap.size < W6.heap.size := by rw [← hW]; (first | omega | (simp; done) | (simp; omega))
        have k_SH_0_W6 : W6.cell? ⟨wb2.heap.size, 0, none⟩ = some (.bool (decide ((sh).num < 0))) := by rw [← hW]; (first | with_reducible exact k_SH_0 | (simp [go_sem, k_SH_0]; done) | (simp [go_sem, k_SH_0, hl_SH]; done) | (go_simp; done) | (simp [go_sem, k_A_0, k_A_1, k_A_2, k_E_0, k_E_1, k_E_2, k_O_0, k_O_1, k_O_2, k_N1_0, k_N1_1, k_N1_2, k_SH_0, k_SH_1, k_SH_2, k_FA_0, k_FA_1, k_FA_2, f_A, f_E, f_O, f_N1, f_SH, f_FA, hl_A, hl_E, hl_O, hl_N1, hl_SH, hl_FA]; done))
        have k_SH_1_W6 : W6.cell? ⟨wb2.heap.size, 1, none⟩ = some (.slice rs (nlen (sh).num.natAbs) cs) := by rw [← hW]; (first | with_reducible exact k_SH_1 | (simp [go_sem, k_SH_1]; done) | (simp [go_sem, k_SH_1, hl_SH]; done) | (go_simp; done) | (simp [go_sem, k_A_0, k_A_1, k_A_2, k_E_0, k_E_1, k_E_2, k_O_0, k_O_1, k_O_2, k_N1_0, k_N1_1, k_N1_2, k_SH_0, k_SH_1, k_SH_2, k_FA_0, k_FA_1, k_FA_2, f_A, f_E, f_O, f_N1, f_SH, f_FA, hl_A, hl_E, hl_O, hl_N1, hl_SH, hl_FA]; done))
        have k_SH_2_W6 : W6.cell? ⟨wb2.heap.size, 2, none⟩ = some (.slice rs2 (nlen (sh).den) cs2) := by rw [← hW]; (first | with_reducible exact k_SH_2 | (simp [go_sem, k_SH_2]; done) | (simp [go_sem, k_SH_2, hl_SH]; done) | (go_simp; done) | (simp [go_sem, k_A_0, k_A_1, k_A_2, k_E_0, k_E_1, k_E_2, k_O_0, k_O_1, k_O_2, k_N1_0, k_N1_1, k_N1_2, k_SH_0, k_SH_1, k_SH_2, k_FA_0, k_FA_1, k_FA_2, f_A, f_E, f_O, f_N1, f_SH, f_FA, hl_A, hl_E, hl_O, hl_N1, hl_SH, hl_FA]; done))
        have f_SH_W6 : ∀ o, W6.frozen? ⟨wb2.heap.size, o, none⟩ = false := by intro o; rw [← hW]; (first | with_reducible exact f_SH o | (simp [go_sem, f_SH]; done) | (simp [go_sem, f_SH, hl_SH]; done) | (go_simp; done) | (simp [go_sem, k_A_0, k_A_1, k_A_2, k_E_0, k_E_1, k_E_2, k_O_0, k_O_1, k_O_2, k_N1_0, k_N1_1, k_N1_2, k_SH_0, k_SH_1, k_SH_2, k_FA_0, k_FA_1, k_FA_2, f_A, f_E, f_O, f_N1, f_SH, f_FA, hl_A, hl_E, hl_O, hl_N1, hl_SH, hl_FA]; done))
        have HX_SH_W6 := Lib.hid (show Bn W6 (wb2.heap.size) by rw [← hW]; (repeat' (first | with_reducible exact Kp.refl _ _ | with_reducible exact HX_A.out | with_reducible exact HX_E.out | with_reducible exact HX_O.out | with_reducible exact HX_N1.out | with_reducible exact HX_SH.out | with_reducible exact HX_FA.out | with_reducible apply Kp.alloc | with_reducible apply Kp.drew | (with_reducible refine Kp.put ?_ ?_ ?_ _; rotate_left; (focus (first | omega | (simp; done) | (simp; omega))); rotate_left) | (with_reducible refine Bn.new _ _ _ _ ?_ ?_; (focus (first | omega | (simp; done) | (simp; omega))); decide) | with_reducible apply Bn.alloc | with_reducible apply Bn.drew | with_reducible apply Bn.set)))
        have hl_FA_W6 : wc2.heap.size < W6.heap.size := by rw [← hW]; (first | omega | (simp; done) | (simp; omega))
        have k_FA_0_W6 : W6.cell? ⟨wc2.heap.size, 0, none⟩ = some (.bool (decide ((pf).num < 0))) := by rw [← hW]; (first | with_reducible exact k_FA_0 | (simp [go_sem, k_FA_0]; done) | (simp [go_sem, k_FA_0, hl_FA]; done) | (go_simp; done) | (simp [go_sem, k_A_0, k_A_1, k_A_2, k_E_0, k_E_1, k_E_2, k_O_0, k_O_1, k_O_2, k_N1_0, k_N1_1, k_N1_2, k_SH_0, k_SH_1, k_SH_2, k_FA_0, k_FA_1, k_FA_2, f_A, f_E, f_O, f_N1, f_SH, f_FA, hl_A, hl_E, hl_O, hl_N1, hl_SH, hl_FA]; done))
        have k_FA_1_W6 : W6.cell? ⟨wc2.heap.size, 1, none⟩ = some (.slice rf (nlen (pf).num.natAbs) cf) := by rw [← hW]; (first | with_reducible exact k_FA_1 | (simp [go_sem, k_FA_1]; done) | (simp [go_sem, k_FA_1, hl_FA]; done) | (go_simp; done) | (simp [go_sem, k_A_0, k_A_1, k_A_2, k_E_0, k_E_1, k_E_2, k_O_0, k_O_1, k_O_2, k_N1_0, k_N1_1, k_N1_2, k_SH_0, k_SH_1, k_SH_2, k_FA_0, k_FA_1, k_FA_2, f_A, f_E, f_O, f_N1, f_SH, f_FA, hl_A, hl_E, hl_O, hl_N1, hl_SH, hl_FA]; done))
        have k_FA_2_W6 : W6.cell? ⟨wc2.heap.size, 2, none⟩ = some (.slice rf2 (nlen (pf).den) cf2) := by rw [← hW]; (first | with_reducible exact k_FA_2 | (simp [go_sem, k_FA_2]; done) | (simp [go_sem, k_FA_2, hl_FA]; done) | (go_simp; done) | (simp [go_sem, k_A_0, k_A_1, k_A_2, k_E_0, k_E_1, k_E_2, k_O_0, k_O_1, k_O_2, k_N1_0, k_N1_1, k_N1_2, k_SH_0, k_SH_1, k_SH_2, k_FA_0, k_FA_1, k_FA_2, f_A, f_E, f_O, f_N1, f_SH, f_FA, hl_A, hl_E, hl_O, hl_N1, hl_SH, hl_FA]; done))
        have f_FA_W6 : ∀ o, W6.frozen? ⟨wc2.heap.size, o, none⟩ = false := by intro o; rw [← hW]; (first | with_reducible exact f_FA o | (simp [go_sem, f_FA]; done) | (simp [go_sem, f_FA, hl_FA]; done) | (go_simp; done) | (simp [go_sem, k_A_0, k_A_1, k_A_2, k_E_0, k_E_1, k_E_2, k_O_0, k_O_1, k_O_2, k_N1_0, k_N1_1, k_N1_2, k_SH_0, k_SH_1, k_SH_2, k_FA_0, k_FA_1, k_FA_2, f_A, f_E, f_O, f_N1, f_SH, f_FA, hl_A, hl_E, hl_O, hl_N1, hl_SH, hl_FA]; done))
        have HX_FA_W6 := Lib.hid (show Bn W6 (wc2.heap.size) by rw [← hW]; (repeat' (first | with_reducible exact Kp.refl _ _ | with_reducible exact HX_A.out | with_reducible exact HX_E.out | with_reducible exact HX_O.out | with_reducible exact HX_N1.out | with_reducible exact HX_SH.out | with_reducible exact HX_FA.out | with_reducible apply Kp.alloc | with_reducible apply Kp.drew | (with_reducible refine Kp.put ?_ ?_ ?_ _; rotate_left; (focus (first | omega | (simp; done) | (simp; omega))); rotate_left) | (with_reducible refine Bn.new _ _ _ _ ?_ ?_; (focus (first | omega | (simp; done) | (simp; omega))); decide) | with_reducible apply Bn.alloc | with_reducible apply Bn.drew | with_reducible apply Bn.set)))
        have hl_M_W6 : wd2.heap.size < W6.heap.size := by rw [← hW]; (first | omega | (simp; done) | (simp; omega))
        have k_M_0_W6 : W6.cell? ⟨wd2.heap.size, 0, none⟩ = some (.bool (decide ((pm).num < 0))) := by rw [← hW]; (first | (go_simp; done) | (simp; done) | (simp [go_sem]; done) | (simp [go_sem, k_A_0, k_A_1, k_A_2, k_E_0, k_E_1, k_E_2, k_O_0, k_O_1, k_O_2, k_N1_0, k_N1_1, k_N1_2, k_SH_0, k_SH_1, k_SH_2, k_FA_0, k_FA_1, k_FA_2, f_A, f_E, f_O, f_N1, f_SH, f_FA, hl_A, hl_E, hl_O, hl_N1, hl_SH, hl_FA]; done))
        have k_M_1_W6 : W6.cell? ⟨wd2.heap.size, 1, none⟩ = some (.slice rm (nlen (pm).num.natAbs) cm) := by rw [← hW]; (first | (go_simp; done) | (simp; done) | (simp [go_sem]; done) | (simp [go_sem, k_A_0, k_A_1, k_A_2, k_E_0, k_E_1, k_E_2, k_O_0, k_O_1, k_O_2, k_N1_0, k_N1_1, k_N1_2, k_SH_0, k_SH_1, k_SH_2, k_FA_0, k_FA_1, k_FA_2, f_A, f_E, f_O, f_N1, f_SH, f_FA, hl_A, hl_E, hl_O, hl_N1, hl_SH, hl_FA]; done))
        have k_M_2_W6 : W6.cell? ⟨wd2.heap.size, 2, none⟩ = some (.slice rm2 (nlen (pm).den) cm2) := by rw [← hW]; (first | (go_simp; done) | (simp; done) | (simp [go_sem]; done) | (simp [go_sem, k_A_0, k_A_1, k_A_2, k_E_0, k_E_1, k_E_2, k_O_0, k_O_1, k_O_2, k_N1_0, k_N1_1, k_N1_2, k_SH_0, k_SH_1, k_SH_2, k_FA_0, k_FA_1, k_FA_2, f_A, f_E, f_O, f_N1, f_SH, f_FA, hl_A, hl_E, hl_O, hl_N1, hl_SH, hl_FA]; done))
        have f_M_W6 : ∀ o, W6.frozen? ⟨wd2.heap.size, o, none⟩ = false := by intro o; rw [← hW]; (first | (go_simp; done) | (simp; done) | (simp [go_sem]; done) | (simp [go_sem, k_A_0, k_A_1, k_A_2, k_E_0, k_E_1, k_E_2, k_O_0, k_O_1, k_O_2, k_N1_0, k_N1_1, k_N1_2, k_SH_0, k_SH_1, k_SH_2, k_FA_0, k_FA_1, k_FA_2, f_A, f_E, f_O, f_N1, f_SH, f_FA, hl_A, hl_E, hl_O, hl_N1, hl_SH, hl_FA]; done))
        have HX_M_W6 := Lib.hid (show Bn W6 (wd2.heap.size) by rw [← hW]; (repeat' (first | with_reducible exact Kp.refl _ _ | with_reducible exact HX_A.out | with_reducible exact HX_E.out | with_reducible exact HX_O.out | with_reducible exact HX_N1.out | with_reducible exact HX_SH.out | with_reducible exact HX_FA.out | with_reducible apply Kp.alloc | with_reducible apply Kp.drew | (with_reducible refine Kp.put ?_ ?_ ?_ _; rotate_left; (focus (first | omega | (simp; done) | (simp; omega))); rotate_left) | (with_reducible refine Bn.new _ _ _ _ ?_ ?_; (focus (first | omega | (simp; done) | (simp; omega))); decide) | with_reducible apply Bn.alloc | with_reducible apply Bn.drew | with_reducible apply Bn.set)))
        have HK_W6 := Lib.hid (show Kp N wd2 W6 by rw [← hW]; (repeat' (first | with_reducible exact Kp.refl _ _ | with_reducible exact HX_A.out | with_reducible exact HX_E.out | with_reducible exact HX_O.out | with_reducible exact HX_N1.out | with_reducible exact HX_SH.out | with_reducible exact HX_FA.out | with_reducible apply Kp.alloc | with_reducible apply Kp.drew | (with_reducible refine Kp.put ?_ ?_ ?_ _; rotate_left; (focus (first | omega | (simp; done) | (simp; omega))); rotate_left) | (with_reducible refine Bn.new _ _ _ _ ?_ ?_; (focus (first | omega | (simp; done) | (simp; omega))); decide) | with_reducible apply Bn.alloc | with_reducible apply Bn.drew | with_reducible apply Bn.set)))
        have HX1_W6 := Lib.hid (HX1.out.keep HK_W6.out)
        have HX2_W6 := Lib.hid (HX2.out.keep HK_W6.out)
        have HR8_W6 := Lib.hid (HR8.out.keep HK_W6.out)
        have HR9_W6 := Lib.hid (HR9.out.keep HK_W6.out)
        have HO1_W6 := Lib.hid (HO1.out.keep HK_W6.out)
        have HO2_W6 := Lib.hid (HO2.out.keep HK_W6.out)
        have HS1_W6 := Lib.hid (HS1.out.keep HK_W6.out)
        have HS2_W6 := Lib.hid (HS2.out.keep HK_W6.out)
        have HF1_W6 := Lib.hid (HF1.out.keep HK_W6.out)
        have HF2_W6 := Lib.hid (HF2.out.keep HK_W6.out)
        have HM1_W6 := Lib.hid (HM1.out.keep HK_W6.out)
        have HM2_W6 := Lib.hid (HM2.out.keep HK_W6.out)
        have HB_W6 := Lib.hid (show Below w.heap.size w W6 by rw [← hW]; (repeat' (first | with_reducible exact Below.refl _ _ | with_reducible exact HB.out | (with_reducible refine Below.alloc ?_ ?_ _; rotate_left; (focus (first | omega | (simp; done) | (simp; omega)))) | with_reducible apply Below.drew | (with_reducible refine Below.setCell ?_ ?_ _; rotate_left; (focus (first | omega | (simp; done) | (simp; omega)))))))
        clear hW HK_W6
        clear hl_A f_A HX_A k_A_0 k_A_1 k_A_2 hl_E f_E HX_E k_E_0 k_E_1 k_E_2 hl_O f_O HX_O k_O_0 k_O_1 k_O_2 hl_N1 f_N1 HX_N1 k_N1_0 k_N1_1 k_N1_2 hl_SH f_SH HX_SH k_SH_0 k_SH_1 k_SH_2 hl_FA f_FA HX_FA k_FA_0 k_FA_1 k_FA_2 HX1 HX2 HR8 HR9 HO1 HO2 HS1 HS2 HF1 HF2 HM1 HM2 HB hN hs0
        have hN := hN_W6
        have HB := HB_W6
        have hs0 := hs0_W6
        have hl_A := hl_A_W6
        have f_A := f_A_W6
        have HX_A := HX_A_W6
        have k_A_0 := k_A_0_W6
        have k_A_1 := k_A_1_W6
        have k_A_2 := k_A_2_W6
        have hl_E := hl_E_W6
        have f_E := f_E_W6
        have HX_E := HX_E_W6
        have k_E_0 := k_E_0_W6
        have k_E_1 := k_E_1_W6
        have k_E_2 := k_E_2_W6
        have hl_O := hl_O_W6
        have f_O := f_O_W6
        have HX_O := HX_O_W6
        have k_O_0 := k_O_0_W6
        have k_O_1 := k_O_1_W6
        have k_O_2 := k_O_2_W6
        have hl_N1 := hl_N1_W6
        have f_N1 := f_N1_W6
        have HX_N1 := HX_N1_W6
        have k_N1_0 := k_N1_0_W6
        have k_N1_1 := k_N1_1_W6
        have k_N1_2 := k_N1_2_W6
        have hl_SH := hl_SH_W6
        have f_SH := f_SH_W6
        have HX_SH := HX_SH_W6
        have k_SH_0 := k_SH_0_W6
        have k_SH_1 := k_SH_1_W6
        have k_SH_2 := k_SH_2_W6
        have hl_FA := hl_FA_W6
        have f_FA := f_FA_W6
        have HX_FA := HX_FA_W6
        have k_FA_0 := k_FA_0_W6
        have k_FA_1 := k_FA_1_W6
        have k_FA_2 := k_FA_2_W6
        have hl_M := hl_M_W6
        have f_M := f_M_W6
        have HX_M := HX_M_W6
        have k_M_0 := k_M_0_W6
        have k_M_1 := k_M_1_W6
        have k_M_2 := k_M_2_W6
        have HX1 := HX1_W6
        have HX2 := HX2_W6
        have HR8 := HR8_W6
        have HR9 := HR9_W6
        have HO1 := HO1_W6
        have HO2 := HO2_W6
        have HS1 := HS1_W6
        have HS2 := HS2_W6
        have HF1 := HF1_W6
        have HF2 := HF2_W6
        have HM1 := HM1_W6
        have HM2 := HM2_W6
        clear hN_W6 HB_W6 hs0_W6 hl_A_W6 f_A_W6 HX_A_W6 k_A_0_W6 k_A_1_W6 k_A_2_W6 hl_E_W6 f_E_W6 HX_E_W6 k_E_0_W6 k_E_1_W6 k_E_2_W6 hl_O_W6 f_O_W6 HX_O_W6 k_O_0_W6 k_O_1_W6 k_O_2_W6 hl_N1_W6 f_N1_W6 HX_N1_W6 k_N1_0_W6 k_N1_1_W6 k_N1_2_W6 hl_SH_W6 f_SH_W6 HX_SH_W6 k_SH_0_W6 k_SH_1_W6 k_SH_2_W6 hl_FA_W6 f_FA_W6 HX_FA_W6 k_FA_0_W6 k_FA_1_W6 k_FA_2_W6 hl_M_W6 f_M_W6 HX_M_W6 k_M_0_W6 k_M_1_W6 k_M_2_W6 HX1_W6 HX2_W6 HR8_W6 HR9_W6 HO1_W6 HO2_W6 HS1_W6 HS2_W6 HF1_W6 HF2_W6 HM1_W6 HM2_W6
        go_region_held3 (fun w' => w'.cell? ⟨g, 0, none⟩ = some (.bool (decide ((p2).num < 0))) ∧ w'.cell? ⟨g, 1, none⟩ = some (.slice rx (nlen (p2).num.natAbs) cx) ∧ w'.cell? ⟨g, 2, none⟩ = some (.slice rx2 (nlen (p2).den) cx2) ∧ w'.cell? ⟨wa2.heap.size, 0, none⟩ = some (.bool (decide ((po).num < 0))) ∧ w'.cell? ⟨wa2.heap.size, 1, none⟩ = some (.slice ro (nlen (po).num.natAbs) co) ∧ w'.cell? ⟨wa2.heap.size, 2, none⟩ = some (.slice ro2 (nlen (po).den) co2) ∧ w'.cell? ⟨wb2.heap.size, 0, none⟩ = some (.bool (decide ((sh).num < 0))) ∧ w'.cell? ⟨wb2.heap.size, 1, none⟩ = some (.slice rs (nlen (sh).num.natAbs) cs) ∧ w'.cell? ⟨wb2.heap.size, 2, none⟩ = some (.slice rs2 (nlen (sh).den) cs2) ∧ w'.cell? ⟨wc2.heap.size, 0, none⟩ = some (.bool (decide ((pf).num < 0))) ∧ w'.cell? ⟨wc2.heap.size, 1, none⟩ = some (.slice rf (nlen (pf).num.natAbs) cf) ∧ w'.cell? ⟨wc2.heap.size, 2, none⟩ = some (.slice rf2 (nlen (pf).den) cf2))
          (first | (go_keep; done) | ((try dsimp only); (repeat' apply And.intro) <;> (first | (go_keep; done) | (exact cell_keep_alloc_drew (by first | omega | (simp; omega)) (by first | assumption | go_simp)) | (exact cell_keep_alloc (by first | omega | (simp; omega)) (by first | assumption | go_simp)) | (rw [cell_set2 _ _ _ _ _ _ _ _ (by omega)]; assumption) | (rw [cell_set3 _ _ _ _ _ _ _ _ _ _ (by omega)]; assumption))))
          (first
            | (go_at_call 13; refine (rsub_any (N := N) _ _ _ _ _ _ _ _ _ _ _ _ _ _ 300 300 po sh _ (by exact hN) (by exact Rt.of_norm HO1.out HO2.out 300 HSo.out) (by exact Rt.of_norm HS1.out HS2.out 300 HSs.out) (by omega) (by omega) pd HPd.out).mono ?_; rintro e we2 ⟨rd, cd, rd2, cd2, rfl, hn, hn', hb⟩; replace hb : Below W6.heap.size W6 we2 := (by first | exact hb | exact bel_of_drew hb); have hN_we2 : N ≤ we2.heap.size := Nat.le_trans hN hb.size; have hs_we2 : W6.heap.size ≤ we2.heap.size := hb.size; have hs0_we2 : w.heap.size ≤ we2.heap.size := Nat.le_trans hs0 hb.size; have hl_A_we2 : g < we2.heap.size := Nat.lt_of_lt_of_le hl_A hb.size; have k_A_0_we2 : we2.cell? ⟨g, 0, none⟩ = some (.bool (decide ((p2).num < 0))) := (hb.cell (p := ⟨g, 0, none⟩) hl_A).trans k_A_0; have k_A_1_we2 : we2.cell? ⟨g, 1, none⟩ = some (.slice rx (nlen (p2).num.natAbs) cx) := (hb.cell (p := ⟨g, 1, none⟩) hl_A).trans k_A_1; have k_A_2_we2 : we2.cell? ⟨g, 2, none⟩ = some (.slice rx2 (nlen (p2).den) cx2) := (hb.cell (p := ⟨g, 2, none⟩) hl_A).trans k_A_2; have f_A_we2 : ∀ o, we2.frozen? ⟨g, o, none⟩ = false := fun o => (hb.frozen (p := ⟨g, o, none⟩) hl_A).trans (f_A o); have HX_A_we2 := Lib.hid (HX_A.out.below hb); have hl_E_we2 : g + 1 < we2.heap.size := Nat.lt_of_lt_of_le hl_E hb.size; have k_E_0_we2 : we2.cell? ⟨g + 1, 0, none⟩ = some (.bool s8) := (hb.cell (p := ⟨g + 1, 0, none⟩) hl_E).trans k_E_0; have k_E_1_we2 : we2.cell? ⟨g + 1, 1, none⟩ = some (.slice a8 n8 c8) := (hb.cell (p := ⟨g + 1, 1, none⟩) hl_E).trans k_E_1; have k_E_2_we2 : we2.cell? ⟨g + 1, 2, none⟩ = some (.slice d8 m8 e8) := (hb.cell (p := ⟨g + 1, 2, none⟩) hl_E).trans k_E_2; have f_E_we2 : ∀ o, we2.frozen? ⟨g + 1, o, none⟩ = false := fun o => (hb.frozen (p := ⟨g + 1, o, none⟩) hl_E).trans (f_E o); have HX_E_we2 := Lib.hid (HX_E.out.below hb); have hl_O_we2 : g + 1 + 1 < we2.heap.size := Nat.lt_of_lt_of_le hl_O hb.size; have k_O_0_we2 : we2.cell? ⟨g + 1 + 1, 0, none⟩ = some (.bool s9) := (hb.cell (p := ⟨g + 1 + 1, 0, none⟩) hl_O).trans k_O_0; have k_O_1_we2 : we2.cell? ⟨g + 1 + 1, 1, none⟩ = some (.slice a9 n9 c9) := (hb.cell (p := ⟨g + 1 + 1, 1, none⟩) hl_O).trans k_O_1; have k_O_2_we2 : we2.cell? ⟨g + 1 + 1, 2, none⟩ = some (.slice d9 m9 e9) := (hb.cell (p := ⟨g + 1 + 1, 2, none⟩) hl_O).trans k_O_2; have f_O_we2 : ∀ o, we2.frozen? ⟨g + 1 + 1, o, none⟩ = false := fun o => (hb.frozen (p := ⟨g + 1 + 1, o, none⟩) hl_O).trans (f_O o); have HX_O_we2 := Lib.hid (HX_O.out.below hb); have hl_N1_we2 : wa2.heap.size < we2.heap.size := Nat.lt_of_lt_of_le hl_N1 hb.size; have k_N1_0_we2 : we2.cell? ⟨wa2.heap.size, 0, none⟩ = some (.bool (decide ((po).num < 0))) := (hb.cell (p := ⟨wa2.heap.size, 0, none⟩) hl_N1).trans k_N1_0; have k_N1_1_we2 : we2.cell? ⟨wa2.heap.size, 1, none⟩ = some (.slice ro (nlen (po).num.natAbs) co) := (hb.cell (p := ⟨wa2.heap.size, 1, none⟩) hl_N1).trans k_N1_1; have k_N1_2_we2 : we2.cell? ⟨wa2.heap.size, 2, none⟩ = some (.slice ro2 (nlen (po).den) co2) := (hb.cell (p := ⟨wa2.heap.size, 2, none⟩) hl_N1).trans k_N1_2; have f_N1_we2 : ∀ o, we2.frozen? ⟨wa2.heap.size, o, none⟩ = false := fun o => (hb.frozen (p := ⟨wa2.heap.size, o, none⟩) hl_N1).trans (f_N1 o); have HX_N1_we2 := Lib.hid (HX_N1.out.below hb); have hl_SH_we2 : wb2.heap.size < we2.heap.size := Nat.lt_of_lt_of_le hl_SH hb.size; have k_SH_0_we2 : we2.cell? ⟨wb2.heap.size, 0, none⟩ = some (.bool (decide ((sh).num < 0))) := (hb.cell (p := ⟨wb2.heap.size, 0, none⟩) hl_SH).trans k_SH_0; have k_SH_1_we2 : we2.cell? ⟨wb2.heap.size, 1, none⟩ = some (.slice rs (nlen (sh).num.natAbs) cs) := (hb.cell (p := ⟨wb2.heap.size, 1, none⟩) hl_SH).trans k_SH_1; have k_SH_2_we2 : we2.cell? ⟨wb2.heap.size, 2, none⟩ = some (.slice rs2 (nlen (sh).den) cs2) := (hb.cell (p := ⟨wb2.heap.size, 2, none⟩) hl_SH).trans k_SH_2; have f_SH_we2 : ∀ o, we2.frozen? ⟨wb2.heap.size, o, none⟩ = false := fun o => (hb.frozen (p := ⟨wb2.heap.size, o, none⟩) hl_SH).trans (f_SH o); have HX_SH_we2 := Lib.hid (HX_SH.out.below hb); have hl_FA_we2 : wc2.heap.size < we2.heap.size := Nat.lt_of_lt_of_le hl_FA hb.size; have k_FA_0_we2 : we2.cell? ⟨wc2.heap.size, 0, none⟩ = some (.bool (decide ((pf).num < 0))) := (hb.cell (p := ⟨wc2.heap.size, 0, none⟩) hl_FA).trans k_FA_0; have k_FA_1_we2 : we2.cell? ⟨wc2.heap.size, 1, none⟩ = some (.slice rf (nlen (pf).num.natAbs) cf) := (hb.cell (p := ⟨wc2.heap.size, 1, none⟩) hl_FA).trans k_FA_1; have k_FA_2_we2 : we2.cell? ⟨wc2.heap.size, 2, none⟩ = some (.slice rf2 (nlen (pf).den) cf2) := (hb.cell (p := ⟨wc2.heap.size, 2, none⟩) hl_FA).trans k_FA_2; have f_FA_we2 : ∀ o, we2.frozen? ⟨wc2.heap.size, o, none⟩ = false := fun o => (hb.frozen (p := ⟨wc2.heap.size, o, none⟩) hl_FA).trans (f_FA o); have HX_FA_we2 := Lib.hid (HX_FA.out.below hb); have hl_M_we2 : wd2.heap.size < we2.heap.size := Nat.lt_of_lt_of_le hl_M hb.size; have k_M_0_we2 : we2.cell? ⟨wd2.heap.size, 0, none⟩ = some (.bool (decide ((pm).num < 0))) := (hb.cell (p := ⟨wd2.heap.size, 0, none⟩) hl_M).trans k_M_0; have k_M_1_we2 : we2.cell? ⟨wd2.heap.size, 1, none⟩ = some (.slice rm (nlen (pm).num.natAbs) cm) := (hb.cell (p := ⟨wd2.heap.size, 1, none⟩) hl_M).trans k_M_1; have k_M_2_we2 : we2.cell? ⟨wd2.heap.size, 2, none⟩ = some (.slice rm2 (nlen (pm).den) cm2) := (hb.cell (p := ⟨wd2.heap.size, 2, none⟩) hl_M).trans k_M_2; have f_M_we2 : ∀ o, we2.frozen? ⟨wd2.heap.size, o, none⟩ = false := fun o => (hb.frozen (p := ⟨wd2.heap.size, o, none⟩) hl_M).trans (f_M o); have HX_M_we2 := Lib.hid (HX_M.out.below hb); have HX1_we2 := Lib.hid (HX1.out.below hb); have HX2_we2 := Lib.hid (HX2.out.below hb); have HR8_we2 := Lib.hid (HR8.out.below hb); have HR9_we2 := Lib.hid (HR9.out.below hb); have HO1_we2 := Lib.hid (HO1.out.below hb); have HO2_we2 := Lib.hid (HO2.out.below hb); have HS1_we2 := Lib.hid (HS1.out.below hb); have HS2_we2 := Lib.hid (HS2.out.below hb); have HF1_we2 := Lib.hid (HF1.out.below hb); have HF2_we2 := Lib.hid (HF2.out.below hb); have HM1_we2 := Lib.hid (HM1.out.below hb); have HM2_we2 := Lib.hid (HM2.out.below hb); have HB_we2 := Lib.hid (HB.out.trans (hb.mono hs0)); clear hb; clear hl_A f_A HX_A k_A_0 k_A_1 k_A_2 hl_E f_E HX_E k_E_0 k_E_1 k_E_2 hl_O f_O HX_O k_O_0 k_O_1 k_O_2 hl_N1 f_N1 HX_N1 k_N1_0 k_N1_1 k_N1_2 hl_SH f_SH HX_SH k_SH_0 k_SH_1 k_SH_2 hl_FA f_FA HX_FA k_FA_0 k_FA_1 k_FA_2 hl_M f_M HX_M k_M_0 k_M_1 k_M_2 HX1 HX2 HR8 HR9 HO1 HO2 HS1 HS2 HF1 HF2 HM1 HM2 HB hN hs0; have hN := hN_we2; have HB := HB_we2; have hs0 := hs0_we2; have hl_A := hl_A_we2; have f_A := f_A_we2; have HX_A := HX_A_we2; have k_A_0 := k_A_0_we2; have k_A_1 := k_A_1_we2; have k_A_2 := k_A_2_we2; have hl_E := hl_E_we2; have f_E := f_E_we2; have HX_E := HX_E_we2; have k_E_0 := k_E_0_we2; have k_E_1 := k_E_1_we2; have k_E_2 := k_E_2_we2; have hl_O := hl_O_we2; have f_O := f_O_we2; have HX_O := HX_O_we2; have k_O_0 := k_O_0_we2; have k_O_1 := k_O_1_we2; have k_O_2 := k_O_2_we2; have hl_N1 := hl_N1_we2; have f_N1 := f_N1_we2; have HX_N1 := HX_N1_we2; have k_N1_0 := k_N1_0_we2; have k_N1_1 := k_N1_1_we2; have k_N1_2 := k_N1_2_we2; have hl_SH := hl_SH_we2; have f_SH := f_SH_we2; have HX_SH := HX_SH_we2; have k_SH_0 := k_SH_0_we2; have k_SH_1 := k_SH_1_we2; have k_SH_2 := k_SH_2_we2; have hl_FA := hl_FA_we2; have f_FA := f_FA_we2; have HX_FA := HX_FA_we2; have k_FA_0 := k_FA_0_we2; have k_FA_1 := k_FA_1_we2; have k_FA_2 := k_FA_2_we2; have hl_M := hl_M_we2; have f_M := f_M_we2; have HX_M := HX_M_we2; have k_M_0 := k_M_0_we2; have k_M_1 := k_M_1_we2; have k_M_2 := k_M_2_we2; have HX1 := HX1_we2; have HX2 := HX2_we2; have HR8 := HR8_we2; have HR9 := HR9_we2; have HO1 := HO1_we2; have HO2 := HO2_we2; have HS1 := HS1_we2; have HS2 := HS2_we2; have HF1 := HF1_we2; have HF2 := HF2_we2; have HM1 := HM1_we2; have HM2 := HM2_we2; clear hN_we2 HB_we2 hs0_we2 hl_A_we2 f_A_we2 HX_A_we2 k_A_0_we2 k_A_1_we2 k_A_2_we2 hl_E_we2 f_E_we2 HX_E_we2 k_E_0_we2 k_E_1_we2 k_E_2_we2 hl_O_we2 f_O_we2 HX_O_we2 k_O_0_we2 k_O_1_we2 k_O_2_we2 hl_N1_we2 f_N1_we2 HX_N1_we2 k_N1_0_we2 k_N1_1_we2 k_N1_2_we2 hl_SH_we2 f_SH_we2 HX_SH_we2 k_SH_0_we2 k_SH_1_we2 k_SH_2_we2 hl_FA_we2 f_FA_we2 HX_FA_we2 k_FA_0_we2 k_FA_1_we2 k_FA_2_we2 hl_M_we2 f_M_we2 HX_M_we2 k_M_0_we2 k_M_1_we2 k_M_2_we2 HX1_we2 HX2_we2 HR8_we2 HR9_we2 HO1_we2 HO2_we2 HS1_we2 HS2_we2 HF1_we2 HF2_we2 HM1_we2 HM2_we2; have HD1 := Lib.hid hn; clear hn; have HD2 := Lib.hid hn'; clear hn'; skip)
            | (go_at_call 12; refine (rmul_any (N := N) _ _ _ _ _ _ _ _ _ _ _ _ _ _ 300 700 pf pd _ (by exact hN) (by exact Rt.of_norm HF1.out HF2.out 300 HSf.out) (by exact Rt.of_norm HD1.out HD2.out 700 HSd.out) (by omega) (by omega) p2 HPa.out).mono ?_; rintro e wf2 ⟨re, ce, re2, ce2, rfl, hn, hn', hb⟩; replace hb : Below we2.heap.size we2 wf2 := (by first | exact hb | exact bel_of_drew hb); have hN_wf2 : N ≤ wf2.heap.size := Nat.le_trans hN hb.size; have hs_wf2 : we2.heap.size ≤ wf2.heap.size := hb.size; have hs0_wf2 : w.heap.size ≤ wf2.heap.size := Nat.le_trans hs0 hb.size; have hl_A_wf2 : g < wf2.heap.size := Nat.lt_of_lt_of_le hl_A hb.size; have k_A_0_wf2 : wf2.cell? ⟨g, 0, none⟩ = some (.bool (decide ((p2).num < 0))) := (hb.cell (p := ⟨g, 0, none⟩) hl_A).trans k_A_0; have k_A_1_wf2 : wf2.cell? ⟨g, 1, none⟩ = some (.slice rx (nlen (p2).num.natAbs) cx) := (hb.cell (p := ⟨g, 1, none⟩) hl_A).trans k_A_1; have k_A_2_wf2 : wf2.cell? ⟨g, 2, none⟩ = some (.slice rx2 (nlen (p2).den) cx2) := (hb.cell (p := ⟨g, 2, none⟩) hl_A).trans k_A_2; have f_A_wf2 : ∀ o, wf2.frozen? ⟨g, o, none⟩ = false := fun o => (hb.frozen (p := ⟨g, o, none⟩) hl_A).trans (f_A o); have HX_A_wf2 := Lib.hid (HX_A.out.below hb); have hl_E_wf2 : g + 1 < wf2.heap.size := Nat.lt_of_lt_of_le hl_E hb.size; have k_E_0_wf2 : wf2.cell? ⟨g + 1, 0, none⟩ = some (.bool s8) := (hb.cell (p := ⟨g + 1, 0, none⟩) hl_E).trans k_E_0; have k_E_1_wf2 : wf2.cell? ⟨g + 1, 1, none⟩ = some (.slice a8 n8 c8) := (hb.cell (p := ⟨g + 1, 1, none⟩) hl_E).trans k_E_1; have k_E_2_wf2 : wf2.cell? ⟨g + 1, 2, none⟩ = some (.slice d8 m8 e8) := (hb.cell (p := ⟨g + 1, 2, none⟩) hl_E).trans k_E_2; have f_E_wf2 : ∀ o, wf2.frozen? ⟨g + 1, o, none⟩ = false := fun o => (hb.frozen (p := ⟨g + 1, o, none⟩) hl_E).trans (f_E o); have HX_E_wf2 := Lib.hid (HX_E.out.below hb); have hl_O_wf2 : g + 1 + 1 < wf2.heap.size := Nat.lt_of_lt_of_le hl_O hb.size; have k_O_0_wf2 : wf2.cell? ⟨g + 1 + 1, 0, none⟩ = some (.bool s9) := (hb.cell (p := ⟨g + 1 + 1, 0, none⟩) hl_O).trans k_O_0; have k_O_1_wf2 : wf2.cell? ⟨g + 1 + 1, 1, none⟩ = some (.slice a9 n9 c9) := (hb.cell (p := ⟨g + 1 + 1, 1, none⟩) hl_O).trans k_O_1; have k_O_2_wf2 : wf2.cell? ⟨g + 1 + 1, 2, none⟩ = some (.slice d9 m9 e9) := (hb.cell (p := ⟨g + 1 + 1, 2, none⟩) hl_O).trans k_O_2; have f_O_wf2 : ∀ o, wf2.frozen? ⟨g + 1 + 1, o, none⟩ = false := fun o => (hb.frozen (p := ⟨g + 1 + 1, o, none⟩) hl_O).trans (f_O o); have HX_O_wf2 := Lib.hid (HX_O.out.below hb); have hl_N1_wf2 : wa2.heap.size < wf2.heap.size := Nat.lt_of_lt_of_le hl_N1 hb.size; have k_N1_0_wf2 : wf2.cell? ⟨wa2.heap.size, 0, none⟩ = some (.bool (decide ((po).num < 0))) := (hb.cell (p := ⟨wa2.heap.size, 0, none⟩) hl_N1).trans k_N1_0; have k_N1_1_wf2 : wf2.cell? ⟨wa2.heap.size, 1, none⟩ = some (.slice ro (nlen (po).num.natAbs) co) := (hb.cell (p := ⟨wa2.heap.size, 1, none⟩) hl_N1).trans k_N1_1; have k_N1_2_wf2 : wf2.cell? ⟨wa2.heap.size, 2, none⟩ = some (.slice ro2 (nlen (po).den) co2) := (hb.cell (p := ⟨wa2.heap.size, 2, none⟩) hl_N1).trans k_N1_2; have f_N1_wf2 : ∀ o, wf2.frozen? ⟨wa2.heap.size, o, none⟩ = false := fun o => (hb.frozen (p := ⟨wa2.heap.size, o, none⟩) hl_N1).trans (f_N1 o); have HX_N1_wf2 := Lib.hid (HX_N1.out.below hb); have hl_SH_wf2 : wb2.heap.size < wf2.heap.size := Nat.lt_of_lt_of_le hl_SH hb.size; have k_SH_0_wf2 : wf2.cell? ⟨wb2.heap.size, 0, none⟩ = some (.bool (decide ((sh).num < 0))) := (hb.cell (p := ⟨wb2.heap.size, 0, none⟩) hl_SH).trans k_SH_0; have k_SH_1_wf2 : wf2.cell? ⟨wb2.heap.size, 1, none⟩ = some (.slice rs (nlen (sh).num.natAbs) cs) := (hb.cell (p := ⟨wb2.heap.size, 1, none⟩) hl_SH).trans k_SH_1; have k_SH_2_wf2 : wf2.cell? ⟨wb2.heap.size, 2, none⟩ = some (.slice rs2 (nlen (sh).den) cs2) := (hb.cell (p := ⟨wb2.heap.size, 2, none⟩) hl_SH).trans k_SH_2; have f_SH_wf2 : ∀ o, wf2.frozen? ⟨wb2.heap.size, o, none⟩ = false := fun o => (hb.frozen (p := ⟨wb2.heap.size, o, none⟩) hl_SH).trans (f_SH o); have HX_SH_wf2 := Lib.hid (HX_SH.out.below hb); have hl_FA_wf2 : wc2.heap.size < wf2.heap.size := Nat.lt_of_lt_of_le hl_FA hb.size; have k_FA_0_wf2 : wf2.cell? ⟨wc2.heap.size, 0, none⟩ = some (.bool (decide ((pf).num < 0))) := (hb.cell (p := ⟨wc2.heap.size, 0, none⟩) hl_FA).trans k_FA_0; have k_FA_1_wf2 : wf2.cell? ⟨wc2.heap.size, 1, none⟩ = some (.slice rf (nlen (pf).num.natAbs) cf) := (hb.cell (p := ⟨wc2.heap.size, 1, none⟩) hl_FA).trans k_FA_1; have k_FA_2_wf2 : wf2.cell? ⟨wc2.heap.size, 2, none⟩ = some (.slice rf2 (nlen (pf).den) cf2) := (hb.cell (p := ⟨wc2.heap.size, 2, none⟩) hl_FA).trans k_FA_2; have f_FA_wf2 : ∀ o, wf2.frozen? ⟨wc2.heap.size, o, none⟩ = false := fun o => (hb.frozen (p := ⟨wc2.heap.size, o, none⟩) hl_FA).trans (f_FA o); have HX_FA_wf2 := Lib.hid (HX_FA.out.below hb); have hl_M_wf2 : wd2.heap.size < wf2.heap.size := Nat.lt_of_lt_of_le hl_M hb.size; have k_M_0_wf2 : wf2.cell? ⟨wd2.heap.size, 0, none⟩ = some (.bool (decide ((pm).num < 0))) := (hb.cell (p := ⟨wd2.heap.size, 0, none⟩) hl_M).trans k_M_0; have k_M_1_wf2 : wf2.cell? ⟨wd2.heap.size, 1, none⟩ = some (.slice rm (nlen (pm).num.natAbs) cm) := (hb.cell (p := ⟨wd2.heap.size, 1, none⟩) hl_M).trans k_M_1; have k_M_2_wf2 : wf2.cell? ⟨wd2.heap.size, 2, none⟩ = some (.slice rm2 (nlen (pm).den) cm2) := (hb.cell (p := ⟨wd2.heap.size, 2, none⟩) hl_M).trans k_M_2; have f_M_wf2 : ∀ o, wf2.frozen? ⟨wd2.heap.size, o, none⟩ = false := fun o => (hb.frozen (p := ⟨wd2.heap.size, o, none⟩) hl_M).trans (f_M o); have HX_M_wf2 := Lib.hid (HX_M.out.below hb); have HX1_wf2 := Lib.hid (HX1.out.below hb); have HX2_wf2 := Lib.hid (HX2.out.below hb); have HR8_wf2 := Lib.hid (HR8.out.below hb); have HR9_wf2 := Lib.hid (HR9.out.below hb); have HO1_wf2 := Lib.hid (HO1.out.below hb); have HO2_wf2 := Lib.hid (HO2.out.below hb); have HS1_wf2 := Lib.hid (HS1.out.below hb); have HS2_wf2 := Lib.hid (HS2.out.below hb); have HF1_wf2 := Lib.hid (HF1.out.below hb); have HF2_wf2 := Lib.hid (HF2.out.below hb); have HM1_wf2 := Lib.hid (HM1.out.below hb); have HM2_wf2 := Lib.hid (HM2.out.below hb); have HD1_wf2 := Lib.hid (HD1.out.below hb); have HD2_wf2 := Lib.hid (HD2.out.below hb); have HB_wf2 := Lib.hid (HB.out.trans (hb.mono hs0)); clear hb; clear hl_A f_A HX_A k_A_0 k_A_1 k_A_2 hl_E f_E HX_E k_E_0 k_E_1 k_E_2 hl_O f_O HX_O k_O_0 k_O_1 k_O_2 hl_N1 f_N1 HX_N1 k_N1_0 k_N1_1 k_N1_2 hl_SH f_SH HX_SH k_SH_0 k_SH_1 k_SH_2 hl_FA f_FA HX_FA k_FA_0 k_FA_1 k_FA_2 hl_M f_M HX_M k_M_0 k_M_1 k_M_2 HX1 HX2 HR8 HR9 HO1 HO2 HS1 HS2 HF1 HF2 HM1 HM2 HD1 HD2 HB hN hs0; have hN := hN_wf2; have HB := HB_wf2; have hs0 := hs0_wf2; have hl_A := hl_A_wf2; have f_A := f_A_wf2; have HX_A := HX_A_wf2; have k_A_0 := k_A_0_wf2; have k_A_1 := k_A_1_wf2; have k_A_2 := k_A_2_wf2; have hl_E := hl_E_wf2; have f_E := f_E_wf2; have HX_E := HX_E_wf2; have k_E_0 := k_E_0_wf2; have k_E_1 := k_E_1_wf2; have k_E_2 := k_E_2_wf2; have hl_O := hl_O_wf2; have f_O := f_O_wf2; have HX_O := HX_O_wf2; have k_O_0 := k_O_0_wf2; have k_O_1 := k_O_1_wf2; have k_O_2 := k_O_2_wf2; have hl_N1 := hl_N1_wf2; have f_N1 := f_N1_wf2; have HX_N1 := HX_N1_wf2; have k_N1_0 := k_N1_0_wf2; have k_N1_1 := k_N1_1_wf2; have k_N1_2 := k_N1_2_wf2; have hl_SH := hl_SH_wf2; have f_SH := f_SH_wf2; have HX_SH := HX_SH_wf2; have k_SH_0 := k_SH_0_wf2; have k_SH_1 := k_SH_1_wf2; have k_SH_2 := k_SH_2_wf2; have hl_FA := hl_FA_wf2; have f_FA := f_FA_wf2; have HX_FA := HX_FA_wf2; have k_FA_0 := k_FA_0_wf2; have k_FA_1 := k_FA_1_wf2; have k_FA_2 := k_FA_2_wf2; have hl_M := hl_M_wf2; have f_M := f_M_wf2; have HX_M := HX_M_wf2; have k_M_0 := k_M_0_wf2; have k_M_1 := k_M_1_wf2; have k_M_2 := k_M_2_wf2; have HX1 := HX1_wf2; have HX2 := HX2_wf2; have HR8 := HR8_wf2; have HR9 := HR9_wf2; have HO1 := HO1_wf2; have HO2 := HO2_wf2; have HS1 := HS1_wf2; have HS2 := HS2_wf2; have HF1 := HF1_wf2; have HF2 := HF2_wf2; have HM1 := HM1_wf2; have HM2 := HM2_wf2; have HD1 := HD1_wf2; have HD2 := HD2_wf2; clear hN_wf2 HB_wf2 hs0_wf2 hl_A_wf2 f_A_wf2 HX_A_wf2 k_A_0_wf2 k_A_1_wf2 k_A_2_wf2 hl_E_wf2 f_E_wf2 HX_E_wf2 k_E_0_wf2 k_E_1_wf2 k_E_2_wf2 hl_O_wf2 f_O_wf2 HX_O_wf2 k_O_0_wf2 k_O_1_wf2 k_O_2_wf2 hl_N1_wf2 f_N1_wf2 HX_N1_wf2 k_N1_0_wf2 k_N1_1_wf2 k_N1_2_wf2 hl_SH_wf2 f_SH_wf2 HX_SH_wf2 k_SH_0_wf2 k_SH_1_wf2 k_SH_2_wf2 hl_FA_wf2 f_FA_wf2 HX_FA_wf2 k_FA_0_wf2 k_FA_1_wf2 k_FA_2_wf2 hl_M_wf2 f_M_wf2 HX_M_wf2 k_M_0_wf2 k_M_1_wf2 k_M_2_wf2 HX1_wf2 HX2_wf2 HR8_wf2 HR9_wf2 HO1_wf2 HO2_wf2 HS1_wf2 HS2_wf2 HF1_wf2 HF2_wf2 HM1_wf2 HM2_wf2 HD1_wf2 HD2_wf2; have HE1 := Lib.hid hn; clear hn; have HE2 := Lib.hid hn'; clear hn'; skip)
            | (go_at_call 11; refine (same25_any (N := N) _ _ _ _ _ _ p2.num.natAbs _ p2.den _ _ _ _ _ (by exact HX1.out) (by exact HX2.out) (by exact HE1.out) (by exact HE2.out)).mono ?_; rintro e wg2 ⟨rfl, hb⟩; replace hb : Below wf2.heap.size wf2 wg2 := (by first | exact hb | exact bel_of_drew hb); have hN_wg2 : N ≤ wg2.heap.size := Nat.le_trans hN hb.size; have hs_wg2 : wf2.heap.size ≤ wg2.heap.size := hb.size; have hs0_wg2 : w.heap.size ≤ wg2.heap.size := Nat.le_trans hs0 hb.size; have hl_A_wg2 : g < wg2.heap.size := Nat.lt_of_lt_of_le hl_A hb.size; have k_A_0_wg2 : wg2.cell? ⟨g, 0, none⟩ = some (.bool (decide ((p2).num < 0))) := (hb.cell (p := ⟨g, 0, none⟩) hl_A).trans k_A_0; have k_A_1_wg2 : wg2.cell? ⟨g, 1, none⟩ = some (.slice rx (nlen (p2).num.natAbs) cx) := (hb.cell (p := ⟨g, 1, none⟩) hl_A).trans k_A_1; have k_A_2_wg2 : wg2.cell? ⟨g, 2, none⟩ = some (.slice rx2 (nlen (p2).den) cx2) := (hb.cell (p := ⟨g, 2, none⟩) hl_A).trans k_A_2; have f_A_wg2 : ∀ o, wg2.frozen? ⟨g, o, none⟩ = false := fun o => (hb.frozen (p := ⟨g, o, none⟩) hl_A).trans (f_A o); have HX_A_wg2 := Lib.hid (HX_A.out.below hb); have hl_E_wg2 : g + 1 < wg2.heap.size := Nat.lt_of_lt_of_le hl_E hb.size; have k_E_0_wg2 : wg2.cell? ⟨g + 1, 0, none⟩ = some (.bool s8) := (hb.cell (p := ⟨g + 1, 0, none⟩) hl_E).trans k_E_0; have k_E_1_wg2 : wg2.cell? ⟨g + 1, 1, none⟩ = some (.slice a8 n8 c8) := (hb.cell (p := ⟨g + 1, 1, none⟩) hl_E).trans k_E_1; have k_E_2_wg2 : wg2.cell? ⟨g + 1, 2, none⟩ = some (.slice d8 m8 e8) := (hb.cell (p := ⟨g + 1, 2, none⟩) hl_E).trans k_E_2; have f_E_wg2 : ∀ o, wg2.frozen? ⟨g + 1, o, none⟩ = false := fun o => (hb.frozen (p := ⟨g + 1, o, none⟩) hl_E).trans (f_E o); have HX_E_wg2 := Lib.hid (HX_E.out.below hb); have hl_O_wg2 : g + 1 + 1 < wg2.heap.size := Nat.lt_of_lt_of_le hl_O hb.size; have k_O_0_wg2 : wg2.cell? ⟨g + 1 + 1, 0, none⟩ = some (.bool s9) := (hb.cell (p := ⟨g + 1 + 1, 0, none⟩) hl_O).trans k_O_0; have k_O_1_wg2 : wg2.cell? ⟨g + 1 + 1, 1, none⟩ = some (.slice a9 n9 c9) := (hb.cell (p := ⟨g + 1 + 1, 1, none⟩) hl_O).trans k_O_1; have k_O_2_wg2 : wg2.cell? ⟨g + 1 + 1, 2, none⟩ = some (.slice d9 m9 e9) := (hb.cell (p := ⟨g + 1 + 1, 2, none⟩) hl_O).trans k_O_2; have f_O_wg2 : ∀ o, wg2.frozen? ⟨g + 1 + 1, o, none⟩ = false := fun o => (hb.frozen (p := ⟨g + 1 + 1, o, none⟩) hl_O).trans (f_O o); have HX_O_wg2 := Lib.hid (HX_O.out.below hb); have hl_N1_wg2 : wa2.heap.size < wg2.heap.size := Nat.lt_of_lt_of_le hl_N1 hb.size; have k_N1_0_wg2 : wg2.cell? ⟨wa2.heap.size, 0, none⟩ = some (.bool (decide ((po).num < 0))) := (hb.cell (p := ⟨wa2.heap.size, 0, none⟩) hl_N1).trans k_N1_0; have k_N1_1_wg2 : wg2.cell? ⟨wa2.heap.size, 1, none⟩ = some (.slice ro (nlen (po).num.natAbs) co) := (hb.cell (p := ⟨wa2.heap.size, 1, none⟩) hl_N1).trans k_N1_1; have k_N1_2_wg2 : wg2.cell? ⟨wa2.heap.size, 2, none⟩ = some (.slice ro2 (nlen (po).den) co2) := (hb.cell (p := ⟨wa2.heap.size, 2, none⟩) hl_N1).trans k_N1_2; have f_N1_wg2 : ∀ o, wg2.frozen? ⟨wa2.heap.size, o, none⟩ = false := fun o => (hb.frozen (p := ⟨wa2.heap.size, o, none⟩) hl_N1).trans (f_N1 o); have HX_N1_wg2 := Lib.hid (HX_N1.out.below hb); have hl_SH_wg2 : wb2.heap.size < wg2.heap.size := Nat.lt_of_lt_of_le hl_SH hb.size; have k_SH_0_wg2 : wg2.cell? ⟨wb2.heap.size, 0, none⟩ = some (.bool (decide ((sh).num < 0))) := (hb.cell (p := ⟨wb2.heap.size, 0, none⟩) hl_SH).trans k_SH_0; have k_SH_1_wg2 : wg2.cell? ⟨wb2.heap.size, 1, none⟩ = some (.slice rs (nlen (sh).num.natAbs) cs) := (hb.cell (p := ⟨wb2.heap.size, 1, none⟩) hl_SH).trans k_SH_1; have k_SH_2_wg2 : wg2.cell? ⟨wb2.heap.size, 2, none⟩ = some (.slice rs2 (nlen (sh).den) cs2) := (hb.cell (p := ⟨wb2.heap.size, 2, none⟩) hl_SH).trans k_SH_2; have f_SH_wg2 : ∀ o, wg2.frozen? ⟨wb2.heap.size, o, none⟩ = false := fun o => (hb.frozen (p := ⟨wb2.heap.size, o, none⟩) hl_SH).trans (f_SH o); have HX_SH_wg2 := Lib.hid (HX_SH.out.below hb); have hl_FA_wg2 : wc2.heap.size < wg2.heap.size := Nat.lt_of_lt_of_le hl_FA hb.size; have k_FA_0_wg2 : wg2.cell? ⟨wc2.heap.size, 0, none⟩ = some (.bool (decide ((pf).num < 0))) := (hb.cell (p := ⟨wc2.heap.size, 0, none⟩) hl_FA).trans k_FA_0; have k_FA_1_wg2 : wg2.cell? ⟨wc2.heap.size, 1, none⟩ = some (.slice rf (nlen (pf).num.natAbs) cf) := (hb.cell (p := ⟨wc2.heap.size, 1, none⟩) hl_FA).trans k_FA_1; have k_FA_2_wg2 : wg2.cell? ⟨wc2.heap.size, 2, none⟩ = some (.slice rf2 (nlen (pf).den) cf2) := (hb.cell (p := ⟨wc2.heap.size, 2, none⟩) hl_FA).trans k_FA_2; have f_FA_wg2 : ∀ o, wg2.frozen? ⟨wc2.heap.size, o, none⟩ = false := fun o => (hb.frozen (p := ⟨wc2.heap.size, o, none⟩) hl_FA).trans (f_FA o); have HX_FA_wg2 := Lib.hid (HX_FA.out.below hb); have hl_M_wg2 : wd2.heap.size < wg2.heap.size := Nat.lt_of_lt_of_le hl_M hb.size; have k_M_0_wg2 : wg2.cell? ⟨wd2.heap.size, 0, none⟩ = some (.bool (decide ((pm).num < 0))) := (hb.cell (p := ⟨wd2.heap.size, 0, none⟩) hl_M).trans k_M_0; have k_M_1_wg2 : wg2.cell? ⟨wd2.heap.size, 1, none⟩ = some (.slice rm (nlen (pm).num.natAbs) cm) := (hb.cell (p := ⟨wd2.heap.size, 1, none⟩) hl_M).trans k_M_1; have k_M_2_wg2 : wg2.cell? ⟨wd2.heap.size, 2, none⟩ = some (.slice rm2 (nlen (pm).den) cm2) := (hb.cell (p := ⟨wd2.heap.size, 2, none⟩) hl_M).trans k_M_2; have f_M_wg2 : ∀ o, wg2.frozen? ⟨wd2.heap.size, o, none⟩ = false := fun o => (hb.frozen (p := ⟨wd2.heap.size, o, none⟩) hl_M).trans (f_M o); have HX_M_wg2 := Lib.hid (HX_M.out.below hb); have HX1_wg2 := Lib.hid (HX1.out.below hb); have HX2_wg2 := Lib.hid (HX2.out.below hb); have HR8_wg2 := Lib.hid (HR8.out.below hb); have HR9_wg2 := Lib.hid (HR9.out.below hb); have HO1_wg2 := Lib.hid (HO1.out.below hb); have HO2_wg2 := Lib.hid (HO2.out.below hb); have HS1_wg2 := Lib.hid (HS1.out.below hb); have HS2_wg2 := Lib.hid (HS2.out.below hb); have HF1_wg2 := Lib.hid (HF1.out.below hb); have HF2_wg2 := Lib.hid (HF2.out.below hb); have HM1_wg2 := Lib.hid (HM1.out.below hb); have HM2_wg2 := Lib.hid (HM2.out.below hb); have HD1_wg2 := Lib.hid (HD1.out.below hb); have HD2_wg2 := Lib.hid (HD2.out.below hb); have HE1_wg2 := Lib.hid (HE1.out.below hb); have HE2_wg2 := Lib.hid (HE2.out.below hb); have HB_wg2 := Lib.hid (HB.out.trans (hb.mono hs0)); clear hb; clear hl_A f_A HX_A k_A_0 k_A_1 k_A_2 hl_E f_E HX_E k_E_0 k_E_1 k_E_2 hl_O f_O HX_O k_O_0 k_O_1 k_O_2 hl_N1 f_N1 HX_N1 k_N1_0 k_N1_1 k_N1_2 hl_SH f_SH HX_SH k_SH_0 k_SH_1 k_SH_2 hl_FA f_FA HX_FA k_FA_0 k_FA_1 k_FA_2 hl_M f_M HX_M k_M_0 k_M_1 k_M_2 HX1 HX2 HR8 HR9 HO1 HO2 HS1 HS2 HF1 HF2 HM1 HM2 HD1 HD2 HE1 HE2 HB hN hs0; have hN := hN_wg2; have HB := HB_wg2; have hs0 := hs0_wg2; have hl_A := hl_A_wg2; have f_A := f_A_wg2; have HX_A := HX_A_wg2; have k_A_0 := k_A_0_wg2; have k_A_1 := k_A_1_wg2; have k_A_2 := k_A_2_wg2; have hl_E := hl_E_wg2; have f_E := f_E_wg2; have HX_E := HX_E_wg2; have k_E_0 := k_E_0_wg2; have k_E_1 := k_E_1_wg2; have k_E_2 := k_E_2_wg2; have hl_O := hl_O_wg2; have f_O := f_O_wg2; have HX_O := HX_O_wg2; have k_O_0 := k_O_0_wg2; have k_O_1 := k_O_1_wg2; have k_O_2 := k_O_2_wg2; have hl_N1 := hl_N1_wg2; have f_N1 := f_N1_wg2; have HX_N1 := HX_N1_wg2; have k_N1_0 := k_N1_0_wg2; have k_N1_1 := k_N1_1_wg2; have k_N1_2 := k_N1_2_wg2; have hl_SH := hl_SH_wg2; have f_SH := f_SH_wg2; have HX_SH := HX_SH_wg2; have k_SH_0 := k_SH_0_wg2; have k_SH_1 := k_SH_1_wg2; have k_SH_2 := k_SH_2_wg2; have hl_FA := hl_FA_wg2; have f_FA := f_FA_wg2; have HX_FA := HX_FA_wg2; have k_FA_0 := k_FA_0_wg2; have k_FA_1 := k_FA_1_wg2; have k_FA_2 := k_FA_2_wg2; have hl_M := hl_M_wg2; have f_M := f_M_wg2; have HX_M := HX_M_wg2; have k_M_0 := k_M_0_wg2; have k_M_1 := k_M_1_wg2; have k_M_2 := k_M_2_wg2; have HX1 := HX1_wg2; have HX2 := HX2_wg2; have HR8 := HR8_wg2; have HR9 := HR9_wg2; have HO1 := HO1_wg2; have HO2 := HO2_wg2; have HS1 := HS1_wg2; have HS2 := HS2_wg2; have HF1 := HF1_wg2; have HF2 := HF2_wg2; have HM1 := HM1_wg2; have HM2 := HM2_wg2; have HD1 := HD1_wg2; have HD2 := HD2_wg2; have HE1 := HE1_wg2; have HE2 := HE2_wg2; clear hN_wg2 HB_wg2 hs0_wg2 hl_A_wg2 f_A_wg2 HX_A_wg2 k_A_0_wg2 k_A_1_wg2 k_A_2_wg2 hl_E_wg2 f_E_wg2 HX_E_wg2 k_E_0_wg2 k_E_1_wg2 k_E_2_wg2 hl_O_wg2 f_O_wg2 HX_O_wg2 k_O_0_wg2 k_O_1_wg2 k_O_2_wg2 hl_N1_wg2 f_N1_wg2 HX_N1_wg2 k_N1_0_wg2 k_N1_1_wg2 k_N1_2_wg2 hl_SH_wg2 f_SH_wg2 HX_SH_wg2 k_SH_0_wg2 k_SH_1_wg2 k_SH_2_wg2 hl_FA_wg2 f_FA_wg2 HX_FA_wg2 k_FA_0_wg2 k_FA_1_wg2 k_FA_2_wg2 hl_M_wg2 f_M_wg2 HX_M_wg2 k_M_0_wg2 k_M_1_wg2 k_M_2_wg2 HX1_wg2 HX2_wg2 HR8_wg2 HR9_wg2 HO1_wg2 HO2_wg2 HS1_wg2 HS2_wg2 HF1_wg2 HF2_wg2 HM1_wg2 HM2_wg2 HD1_wg2 HD2_wg2 HE1_wg2 HE2_wg2; skip))
        go_wp2_with fail
        refine region_name fun W7 hW => ?_
        have hN_W7 : N ≤ W7.heap.size := by rw [← hW]; (first | omega | (simp; done) | (simp; omega))
        have hs_W7 : wg2.heap.size ≤ W7.heap.size := by rw [← hW]; (first | omega | (simp; done) | (simp; omega))
        have hs0_W7 : w.heap.size ≤ W7.heap.size := by rw [← hW]; (first | omega | (simp; done) | (simp; omega))
        have hl_A_W7 : g < W7.heap.size := by rw [← hW]; (first | omega | (simp; done) | (simp; omega))
        have k_A_0_W7 : W7.cell? ⟨g, 0, none⟩ = some (.bool (decide ((p2).num < 0))) := by rw [← hW]; (first | with_reducible exact k_A_0 | (simp [go_sem, k_A_0]; done) | (simp [go_sem, k_A_0, hl_A]; done) | (go_simp; done) | (simp [go_sem, k_A_0, k_A_1, k_A_2, k_E_0, k_E_1, k_E_2, k_O_0, k_O_1, k_O_2, k_N1_0, k_N1_1, k_N1_2, k_SH_0, k_SH_1, k_SH_2, k_FA_0, k_FA_1, k_FA_2, k_M_0, k_M_1, k_M_2, f_A, f_E, f_O, f_N1, f_SH, f_FA, f_M, hl_A, hl_E, hl_O, hl_N1, hl_SH, hl_FA, hl_M]; done))
        have k_A_1_W7 : W7.cell? ⟨g, 1, none⟩ = some (.slice rx (nlen (p2).num.natAbs) cx) := by rw [← hW]; (first | with_reducible exact k_A_1 | (simp [go_sem, k_A_1]; done) | (simp [go_sem, k_A_1, hl_A]; done) | (go_simp; done) | (simp [go_sem, k_A_0, k_A_1, k_A_2, k_E_0, k_E_1, k_E_2, k_O_0, k_O_1, k_O_2, k_N1_0, k_N1_1, k_N1_2, k_SH_0, k_SH_1, k_SH_2, k_FA_0, k_FA_1, k_FA_2, k_M_0, k_M_1, k_M_2, f_A, f_E, f_O, f_N1, f_SH, f_FA, f_M, hl_A, hl_E, hl_O, hl_N1, hl_SH, hl_FA, hl_M]; done))
        have k_A_2_W7 : W7.cell? ⟨g, 2, none⟩ = some (.slice rx2 (nlen (p2).den) cx2) := by rw [← hW]; (first | with_reducible exact k_A_2 | (simp [go_sem, k_A_2]; done) | (simp [go_sem, k_A_2, hl_A]; done) | (go_simp; done) | (simp [go_sem, k_A_0, k_A_1, k_A_2, k_E_0, k_E_1, k_E_2, k_O_0, k_O_1, k_O_2, k_N1_0, k_N1_1, k_N1_2, k_SH_0, k_SH_1, k_SH_2, k_FA_0, k_FA_1, k_FA_2, k_M_0, k_M_1, k_M_2, f_A, f_E, f_O, f_N1, f_SH, f_FA, f_M, hl_A, hl_E, hl_O, hl_N1, hl_SH, hl_FA, hl_M]; done))
        have f_A_W7 : ∀ o, W7.frozen? ⟨g, o, none⟩ = false := by intro o; rw [← hW]; (first | with_reducible exact f_A o | (simp [go_sem, f_A]; done) | (simp [go_sem, f_A, hl_A]; done) | (go_simp; done) | (simp [go_sem, k_A_0, k_A_1, k_A_2, k_E_0, k_E_1, k_E_2, k_O_0, k_O_1, k_O_2, k_N1_0, k_N1_1, k_N1_2, k_SH_0, k_SH_1, k_SH_2, k_FA_0, k_FA_1, k_FA_2, k_M_0, k_M_1, k_M_2, f_A, f_E, f_O, f_N1, f_SH, f_FA, f_M, hl_A, hl_E, hl_O, hl_N1, hl_SH, hl_FA, hl_M]; done))
        have HX_A_W7 := Lib.hid (show Bn W7 (g) by rw [← hW]; (repeat' (first | with_reducible exact Kp.refl _ _ | with_reducible exact HX_A.out | with_reducible exact HX_E.out | with_reducible exact HX_O.out | with_reducible exact HX_N1.out | with_reducible exact HX_SH.out | with_reducible exact HX_FA.out | with_reducible exact HX_M.out | with_reducible apply Kp.alloc | with_reducible apply Kp.drew | (with_reducible refine Kp.put ?_ ?_ ?_ _; rotate_left; (focus (first | omega | (simp; done) | (simp; omega))); rotate_left) | (with_reducible refine Bn.new _ _ _ _ ?_ ?_; (focus (first | omega | (simp; done) | (simp; omega))); decide) | with_reducible apply Bn.alloc | with_reducible apply Bn.drew | with_reducible apply Bn.set)))
        have hl_E_W7 : g + 1 < W7.heap.size := by rw [← hW]; (first | omega | (simp; done) | (simp; omega))
        have k_E_0_W7 : W7.cell? ⟨g + 1, 0, none⟩ = some (.bool s8) := by rw [← hW]; (first | with_reducible exact k_E_0 | (simp [go_sem, k_E_0]; done) | (simp [go_sem, k_E_0, hl_E]; done) | (go_simp; done) | (simp [go_sem, k_A_0, k_A_1, k_A_2, k_E_0, k_E_1, k_E_2, k_O_0, k_O_1, k_O_2, k_N1_0, k_N1_1, k_N1_2, k_SH_0, k_SH_1, k_SH_2, k_FA_0, k_FA_1, k_FA_2, k_M_0, k_M_1, k_M_2, f_A, f_E, f_O, f_N1, f_SH, f_FA, f_M, hl_A, hl_E, hl_O, hl_N1, hl_SH, hl_FA, hl_M]; done))
        have k_E_1_W7 : W7.cell? ⟨g + 1, 1, none⟩ = some (.slice a8 n8 c8) := by rw [← hW]; (first | with_reducible exact k_E_1 | (simp [go_sem, k_E_1]; done) | (simp [go_sem, k_E_1, hl_E]; done) | (go_simp; done) | (simp [go_sem, k_A_0, k_A_1, k_A_2, k_E_0, k_E_1, k_E_2, k_O_0, k_O_1, k_O_2, k_N1_0, k_N1_1, k_N1_2, k_SH_0, k_SH_1, k_SH_2, k_FA_0, k_FA_1, k_FA_2, k_M_0, k_M_1, k_M_2, f_A, f_E, f_O, f_N1, f_SH, f_FA, f_M, hl_A, hl_E, hl_O, hl_N1, hl_SH, hl_FA, hl_M]; done))
        have k_E_2_W7 : W7.cell? ⟨g + 1, 2, none⟩ = some (.slice d8 m8 e8) := by rw [← hW]; (first | with_reducible exact k_E_2 | (simp [go_sem, k_E_2]; done) | (simp [go_sem, k_E_2, hl_E]; done) | (go_simp; done) | (simp [go_sem, k_A_0, k_A_1, k_A_2, k_E_0, k_E_1, k_E_2, k_O_0, k_O_1, k_O_2, k_N1_0, k_N1_1, k_N1_2, k_SH_0, k_SH_1, k_SH_2, k_FA_0, k_FA_1, k_FA_2, k_M_0, k_M_1, k_M_2, f_A, f_E, f_O, f_N1, f_SH, f_FA, f_M, hl_A, hl_E, hl_O, hl_N1, hl_SH, hl_FA, hl_M]; done))
        have f_E_W7 : ∀ o, W7.frozen? ⟨g + 1, o, none⟩ = false := by intro o; rw [← hW]; (first | with_reducible exact f_E o | (simp [go_sem, f_E]; done) | (simp [go_sem, f_E, hl_E]; done) | (go_simp; done) | (simp [go_sem, k_A_0, k_A_1, k_A_2, k_E_0, k_E_1, k_E_2, k_O_0, k_O_1, k_O_2, k_N1_0, k_N1_1, k_N1_2, k_SH_0, k_SH_1, k_SH_2, k_FA_0, k_FA_1, k_FA_2, k_M_0, k_M_1, k_M_2, f_A, f_E, f_O, f_N1, f_SH, f_FA, f_M, hl_A, hl_E, hl_O, hl_N1, hl_SH, hl_FA, hl_M]; done))
        have HX_E_W7 := Lib.hid (show Bn W7 (g + 1) by rw [← hW]; (repeat' (first | with_reducible exact Kp.refl _ _ | with_reducible exact HX_A.out | with_reducible exact HX_E.out | with_reducible exact HX_O.out | with_reducible exact HX_N1.out | with_reducible exact HX_SH.out | with_reducible exact HX_FA.out | with_reducible exact HX_M.out | with_reducible apply Kp.alloc | with_reducible apply Kp.drew | (with_reducible refine Kp.put ?_ ?_ ?_ _; rotate_left; (focus (first | omega | (simp; done) | (simp; omega))); rotate_left) | (with_reducible refine Bn.new _ _ _ _ ?_ ?_; (focus (first | omega | (simp; done) | (simp; omega))); decide) | with_reducible apply Bn.alloc | with_reducible apply Bn.drew | with_reducible apply Bn.set)))
        have hl_O_W7 : g + 1 + 1 < W7.heap.size := by rw [← hW]; (first | omega | (simp; done) | (simp; omega))
        have k_O_0_W7 : W7.cell? ⟨g + 1 + 1, 0, none⟩ = some (.bool s9) := by rw [← hW]; (first | with_reducible exact k_O_0 | (simp [go_sem, k_O_0]; done) | (simp [go_sem, k_O_0, hl_O]; done) | (go_simp; done) | (simp [go_sem, k_A_0, k_A_1, k_A_2, k_E_0, k_E_1, k_E_2, k_O_0, k_O_1, k_O_2, k_N1_0, k_N1_1, k_N1_2, k_SH_0, k_SH_1, k_SH_2, k_FA_0, k_FA_1, k_FA_2, k_M_0, k_M_1, k_M_2, f_A, f_E, f_O, f_N1, f_SH, f_FA, f_M, hl_A, hl_E, hl_O, hl_N1, hl_SH, hl_FA, hl_M]; done))
        have k_O_1_W7 : W7.cell? ⟨g + 1 + 1, 1, none⟩ = some (.slice a9 n9 c9) := by rw [← hW]; (first | with_reducible exact k_O_1 | (simp [go_sem, k_O_1]; done) | (simp [go_sem, k_O_1, hl_O]; done) | (go_simp; done) | (simp [go_sem, k_A_0, k_A_1, k_A_2, k_E_0, k_E_1, k_E_2, k_O_0, k_O_1, k_O_2, k_N1_0, k_N1_1, k_N1_2, k_SH_0, k_SH_1, k_SH_2, k_FA_0, k_FA_1, k_FA_2, k_M_0, k_M_1, k_M_2, f_A, f_E, f_O, f_N1, f_SH, f_FA, f_M, hl_A, hl_E, hl_O, hl_N1, hl_SH, hl_FA, hl_M]; done))
        have k_O_2_W7 : W7.cell? ⟨g + 1 + 1, 2, none⟩ = some (.slice d9 m9 e9) := by rw [← hW]; (first | with_reducible exact k_O_2 | (simp [go_sem, k_O_2]; done) | (simp [go_sem, k_O_2, hl_O]; done) | (go_simp; done) | (simp [go_sem, k_A_0, k_A_1, k_A_2, k_E_0, k_E_1, k_E_2, k_O_0, k_O_1, k_O_2, k_N1_0, k_N1_1, k_N1_2, k_SH_0, k_SH_1, k_SH_2, k_FA_0, k_FA_1, k_FA_2, k_M_0, k_M_1, k_M_2, f_A, f_E, f_O, f_N1, f_SH, f_FA, f_M, hl_A, hl_E, hl_O, hl_N1, hl_SH, hl_FA, hl_M]; done))
        have f_O_W7 : ∀ o, W7.frozen? ⟨g + 1 + 1, o, none⟩ = false := by intro o; rw [← hW]; (first | with_reducible exact f_O o | (simp [go_sem, f_O]; done) | (simp [go_sem, f_O, hl_O]; done) | (go_simp; done) | (simp [go_sem, k_A_0, k_A_1, k_A_2, k_E_0, k_E_1, k_E_2, k_O_0, k_O_1, k_O_2, k_N1_0, k_N1_1, k_N1_2, k_SH_0, k_SH_1, k_SH_2, k_FA_0, k_FA_1, k_FA_2, k_M_0, k_M_1, k_M_2, f_A, f_E, f_O, f_N1, f_SH, f_FA, f_M, hl_A, hl_E, hl_O, hl_N1, hl_SH, hl_FA, hl_M]; done))
        have HX_O_W7 := Lib.hid (show Bn W7 (g + 1 + 1) by rw [← hW]; (repeat' (first | with_reducible exact Kp.refl _ _ | with_reducible exact HX_A.out | with_reducible exact HX_E.out | with_reducible exact HX_O.out | with_reducible exact HX_N1.out | with_reducible exact HX_SH.out | with_reducible exact HX_FA.out | with_reducible exact HX_M.out | with_reducible apply Kp.alloc | with_reducible apply Kp.drew | (with_reducible refine Kp.put ?_ ?_ ?_ _; rotate_left; (focus (first | omega | (simp; done) | (simp; omega))); rotate_left) | (with_reducible refine Bn.new _ _ _ _ ?_ ?_; (focus (first | omega | (simp; done) | (simp; omega))); decide) | with_reducible apply Bn.alloc | with_reducible apply Bn.drew | with_reducible apply Bn.set)))
        have hl_N1_W7 : wa2.heap.size < W7.heap.size := by rw [← hW]; (first | omega | (simp; done) | (simp; omega))
        have k_N1_0_W7 : W7.cell? ⟨wa2.heap.size, 0, none⟩ = some (.bool (decide ((po).num < 0))) := by rw [← hW]; (first | with_reducible exact k_N1_0 | (simp [go_sem, k_N1_0]; done) | (simp [go_sem, k_N1_0, hl_N1]; done) | (go_simp; done) | (simp [go_sem, k_A_0, k_A_1, k_A_2, k_E_0, k_E_1, k_E_2, k_O_0, k_O_1, k_O_2, k_N1_0, k_N1_1, k_N1_2, k_SH_0, k_SH_1, k_SH_2, k_FA_0, k_FA_1, k_FA_2, k_M_0, k_M_1, k_M_2, f_A, f_E, f_O, f_N1, f_SH, f_FA, f_M, hl_A, hl_E, hl_O, hl_N1, hl_SH, hl_FA, hl_M]; done))
        have k_N1_1_W7 : W7.cell? ⟨wa2.heap.size, 1, none⟩ = some (.slice ro (nlen (po).num.natAbs) co) := by rw [← hW]; (first | with_reducible exact k_N1_1 | (simp [go_sem, k_N1_1]; done) | (simp [go_sem, k_N1_1, hl_N1]; done) | (go_simp; done) | (simp [go_sem, k_A_0, k_A_1, k_A_2, k_E_0, k_E_1, k_E_2, k_O_0, k_O_1, k_O_2, k_N1_0, k_N1_1, k_N1_2, k_SH_0, k_SH_1, k_SH_2, k_FA_0, k_FA_1, k_FA_2, k_M_0, k_M_1, k_M_2, f_A, f_E, f_O, f_N1, f_SH, f_FA, f_M, hl_A, hl_E, hl_O, hl_N1, hl_SH, hl_FA, hl_M]; done))
        have k_N1_2_W7 : W7.cell? ⟨wa2.heap.size, 2, none⟩ = some (.slice ro2 (nlen (po).den) co2) := by rw [← hW]; (first | with_reducible exact k_N1_2 | (simp [go_sem, k_N1_2]; done) | (simp [go_sem, k_N1_2, hl_N1]; done) | (go_simp; done) | (simp [go_sem, k_A_0, k_A_1, k_A_2, k_E_0, k_E_1, k_E_2, k_O_0, k_O_1, k_O_2, k_N1_0, k_N1_1, k_N1_2, k_SH_0, k_SH_1, k_SH_2, k_FA_0, k_FA_1, k_FA_2, k_M_0, k_M_1, k_M_2, f_A, f_E, f_O, f_N1, f_SH, f_FA, f_M, hl_A, hl_E, hl_O, hl_N1, hl_SH, hl_FA, hl_M]; done))
        have f_N1_W7 : ∀ o, W7.frozen? ⟨wa2.heap.size, o, none⟩ = false := by intro o; rw [← hW]; (first | with_reducible exact f_N1 o | (simp [go_sem, f_N1]; done) | (simp [go_sem, f_N1, hl_N1]; done) | (go_simp; done) | (simp [go_sem, k_A_0, k_A_1, k_A_2, k_E_0, k_E_1, k_E_2, k_O_0, k_O_1, k_O_2, k_N1_0, k_N1_1, k_N1_2, k_SH_0, k_SH_1, k_SH_2, k_FA_0, k_FA_1, k_FA_2, k_M_0, k_M_1, k_M_2, f_A, f_E, f_O, f_N1, f_SH, f_FA, f_M, hl_A, hl_E, hl_O, hl_N1, hl_SH, hl_FA, hl_M]; done))
        have HX_N1_W7 := Lib.hid (show Bn W7 (wa2.heap.size) by rw [← hW]; (repeat' (first | with_reducible exact Kp.refl _ _ | with_reducible exact HX_A.out | with_reducible exact HX_E.out | with_reducible exact HX_O.out | with_reducible exact HX_N1.out | with_reducible exact HX_SH.out | with_reducible exact HX_FA.out | with_reducible exact HX_M.out | with_reducible apply Kp.alloc | with_reducible apply Kp.drew | (with_reducible refine Kp.put ?_ ?_ ?_ _; rotate_left; (focus (first | omega | (simp; done) | (simp; omega))); rotate_left) | (with_reducible refine Bn.new _ _ _ _ ?_ ?_; (focus (first | omega | (simp; done) | (simp; omega))); decide) | with_reducible apply Bn.alloc | with_reducible apply Bn.drew | with_reducible apply Bn.set)))
        have hl_SH_W7 : wb2.heap.size < W7.heap.size := by rw [← hW]; (first | omega | (simp; done) | (simp; omega))
        have k_SH_0_W7 : W7.cell? ⟨wb2.heap.size, 0, none⟩ = some (.bool (decide ((sh).num < 0))) := by rw [← hW]; (first | with_reducible exact k_SH_0 | (simp [go_sem, k_SH_0]; done) | (simp [go_sem, k_SH_0, hl_SH]; done) | (go_simp; done) | (simp [go_sem, k_A_0, k_A_1, k_A_2, k_E_0, k_E_1, k_E_2, k_O_0, k_O_1, k_O_2, k_N1_0, k_N1_1, k_N1_2, k_SH_0, k_SH_1, k_SH_2, k_FA_0, k_FA_1, k_FA_2, k_M_0, k_M_1, k_M_2, f_A, f_E, f_O, f_N1, f_SH, f_FA, f_M, hl_A, hl_E, hl_O, hl_N1, hl_SH, hl_FA, hl_M]; done))
        have k_SH_1_W7 : W7.cell? ⟨wb2.heap.size, 1, none⟩ = some (.slice rs (nlen (sh).num.natAbs) cs) := by rw [← hW]; (first | with_reducible exact k_SH_1 | (simp [go_sem, k_SH_1]; done) | (simp [go_sem, k_SH_1, hl_SH]; done) | (go_simp; done) | (simp [go_sem, k_A_0, k_A_1, k_A_2, k_E_0, k_E_1, k_E_2, k_O_0, k_O_1, k_O_2, k_N1_0, k_N1_1, k_N1_2, k_SH_0, k_SH_1, k_SH_2, k_FA_0, k_FA_1, k_FA_2, k_M_0, k_M_1, k_M_2, f_A, f_E, f_O, f_N1, f_SH, f_FA, f_M, hl_A, hl_E, hl_O, hl_N1, hl_SH, hl_FA, hl_M]; done))
        have k_SH_2_W7 : W7.cell? ⟨wb2.heap.size, 2, none⟩ = some (.slice rs2 (nlen (sh).den) cs2) := by rw [← hW]; (first | with_reducible exact k_SH_2 | (simp [go_sem, k_SH_2]; done) | (simp [go_sem, k_SH_2, hl_SH]; done) | (go_simp; done) | (simp [go_sem, k_A_0, k_A_1, k_A_2, k_E_0, k_E_1, k_E_2, k_O_0, k_O_1, k_O_2, k_N1_0, k_N1_1, k_N1_2, k_SH_0, k_SH_1, k_SH_2, k_FA_0, k_FA_1, k_FA_2, k_M_0, k_M_1, k_M_2, f_A, f_E, f_O, f_N1, f_SH, f_FA, f_M, hl_A, hl_E, hl_O, hl_N1, hl_SH, hl_FA, hl_M]; done))
        have f_SH_W7 : ∀ o, W7.frozen? ⟨wb2.heap.size, o, none⟩ = false := by intro o; rw [← hW]; (first | with_reducible exact f_SH o | (simp [go_sem, f_SH]; done) | (simp [go_sem, f_SH, hl_SH]; done) | (go_simp; done) | (simp [go_sem, k_A_0, k_A_1, k_A_2, k_E_0, k_E_1, k_E_2, k_O_0, k_O_1, k_O_2, k_N1_0, k_N1_1, k_N1_2, k_SH_0, k_SH_1, k_SH_2, k_FA_0, k_FA_1, k_FA_2, k_M_0, k_M_1, k_M_2, f_A, f_E, f_O, f_N1, f_SH, f_FA, f_M, hl_A, hl_E, hl_O, hl_N1, hl_SH, hl_FA, hl_M]; done))
        have HX_SH_W7 := Lib.hid (show Bn W7 (wb2.heap.size) by rw [← hW]; (repeat' (first | with_reducible exact Kp.refl _ _ | with_reducible exact HX_A.out | with_reducible exact HX_E.out | with_reducible exact HX_O.out | with_reducible exact HX_N1.out | with_reducible exact HX_SH.out | with_reducible exact HX_FA.out | with_reducible exact HX_M.out | with_reducible apply Kp.alloc | with_reducible apply Kp.drew | (with_reducible refine Kp.put ?_ ?_ ?_ _; rotate_left; (focus (first | omega | (simp; done) | (simp; omega))); rotate_left) | (with_reducible refine Bn.new _ _ _ _ ?_ ?_; (focus (first | omega | (simp; done) | (simp; omega))); decide) | with_reducible apply Bn.alloc | with_reducible apply Bn.drew | with_reducible apply Bn.set)))
        have hl_FA_W7 : wc2.heap.size < W7.heap.size := by rw [← hW]; (first | omega | (simp; done) | (simp; omega))
        have k_FA_0_W7 : W7.cell? ⟨wc2.heap.size, 0, none⟩ = some (.bool (decide ((pf).num < 0))) := by rw [← hW]; (first | with_reducible exact k_FA_0 | (simp [go_sem, k_FA_0]; done) | (simp [go_sem, k_FA_0, hl_FA]; done) | (go_simp; done) | (simp [go_sem, k_A_0, k_A_1, k_A_2, k_E_0, k_E_1, k_E_2, k_O_0, k_O_1, k_O_2, k_N1_0, k_N1_1, k_N1_2, k_SH_0, k_SH_1, k_SH_2, k_FA_0, k_FA_1, k_FA_2, k_M_0, k_M_1, k_M_2, f_A, f_E, f_O, f_N1, f_SH, f_FA, f_M, hl_A, hl_E, hl_O, hl_N1, hl_SH, hl_FA, hl_M]; done))
        have k_FA_1_W7 : W7.cell? ⟨wc2.heap.size, 1, none⟩ = some (.slice rf (nlen (pf).num.natAbs) cf) := by rw [← hW]; (first | with_reducible exact k_FA_1 | (simp [go_sem, k_FA_1]; done) | (simp [go_sem, k_FA_1, hl_FA]; done) | (go_simp; done) | (simp [go_sem, k_A_0, k_A_1, k_A_2, k_E_0, k_E_1, k_E_2, k_O_0, k_O_1, k_O_2, k_N1_0, k_N1_1, k_N1_2, k_SH_0, k_SH_1, k_SH_2, k_FA_0, k_FA_1, k_FA_2, k_M_0, k_M_1, k_M_2, f_A, f_E, f_O, f_N1, f_SH, f_FA, f_M, hl_A, hl_E, hl_O, hl_N1, hl_SH, hl_FA, hl_M]; done))
        have k_FA_2_W7 : W7.cell? ⟨wc2.heap.size, 2, none⟩ = some (.slice rf2 (nlen (pf).den) cf2) := by rw [← hW]; (first | with_reducible exact k_FA_2 | (simp [go_sem, k_FA_2]; done) | (simp [go_sem, k_FA_2, hl_FA]; done) | (go_simp; done) | (simp [go_sem, k_A_0, k_A_1, k_A_2, k_E_0, k_E_1, k_E_2, k_O_0, k_O_1, k_O_2, k_N1_0, k_N1_1, k_N1_2, k_SH_0, k_SH_1, k_SH_2, k_FA_0, k_FA_1, k_FA_2, k_M_0, k_M_1, k_M_2, f_A, f_E, f_O, f_N1, f_SH, f_FA, f_M, hl_A, hl_E, hl_O, hl_N1, hl_SH, hl_FA, hl_M]; done))
        have f_FA_W7 : ∀ o, W7.frozen? ⟨wc2.heap.size, o, none⟩ = false := by intro o; rw [← hW]; (first | with_reducible exact f_FA o | (simp [go_sem, f_FA]; done) | (simp [go_sem, f_FA, hl_FA]; done) | (go_simp; done) | (simp [go_sem, k_A_0, k_A_1, k_A_2, k_E_0, k_E_1, k_E_2, k_O_0, k_O_1, k_O_2, k_N1_0, k_N1_1, k_N1_2, k_SH_0, k_SH_1, k_SH_2, k_FA_0, k_FA_1, k_FA_2, k_M_0, k_M_1, k_M_2, f_A, f_E, f_O, f_N1, f_SH, f_FA, f_M, hl_A, hl_E, hl_O, hl_N1, hl_SH, hl_FA, hl_M]; done))
        have HX_FA_W7 := Lib.hid (show Bn W7 (wc2.heap.size) by rw [← hW]; (repeat' (first | with_reducible exact Kp.refl _ _ | with_reducible exact HX_A.out | with_reducible exact HX_E.out | with_reducible exact HX_O.out | with_reducible exact HX_N1.out | with_reducible exact HX_SH.out | with_reducible exact HX_FA.out | with_reducible exact HX_M.out | with_reducible apply Kp.alloc | with_reducible apply Kp.drew | (with_reducible refine Kp.put ?_ ?_ ?_ _; rotate_left; (focus (first | omega | (simp; done) | (simp; omega))); rotate_left) | (with_reducible refine Bn.new _ _ _ _ ?_ ?_; (focus (first | omega | (simp; done) | (simp; omega))); decide) | with_reducible apply Bn.alloc | with_reducible apply Bn.drew | with_reducible apply Bn.set)))
        have hl_M_W7 : wd2.heap.size < W7.heap.size := by rw [← hW]; (first | omega | (simp; done) | (simp; omega))
        have k_M_0_W7 : W7.cell? ⟨wd2.heap.size, 0, none⟩ = some (.bool (decide ((pm).num < 0))) := by rw [← hW]; (first | with_reducible exact k_M_0 | (simp [go_sem, k_M_0]; done) | (simp [go_sem, k_M_0, hl_M]; done) | (go_simp; done) | (simp [go_sem, k_A_0, k_A_1, k_A_2, k_E_0, k_E_1, k_E_2, k_O_0, k_O_1, k_O_2, k_N1_0, k_N1_1, k_N1_2, k_SH_0, k_SH_1, k_SH_2, k_FA_0, k_FA_1, k_FA_2, k_M_0, k_M_1, k_M_2, f_A, f_E, f_O, f_N1, f_SH, f_FA, f_M, hl_A, hl_E, hl_O, hl_N1, hl_SH, hl_FA, hl_M]; done))
        have k_M_1_W7 : W7.cell? ⟨wd2.heap.size, 1, none⟩ = some (.slice rm (nlen (pm).num.natAbs) cm) := by rw [← hW]; (first | with_reducible exact k_M_1 | (simp [go_sem, k_M_1]; done) | (simp [go_sem, k_M_1, hl_M]; done) | (go_simp; done) | (simp [go_sem, k_A_0, k_A_1, k_A_2, k_E_0, k_E_1, k_E_2, k_O_0, k_O_1, k_O_2, k_N1_0, k_N1_1, k_N1_2, k_SH_0, k_SH_1, k_SH_2, k_FA_0, k_FA_1, k_FA_2, k_M_0, k_M_1, k_M_2, f_A, f_E, f_O, f_N1, f_SH, f_FA, f_M, hl_A, hl_E, hl_O, hl_N1, hl_SH, hl_FA, hl_M]; done))
        have k_M_2_W7 : W7.cell? ⟨wd2.heap.size, 2, none⟩ = some (.slice rm2 (nlen (pm).den) cm2) := by rw [← hW]; (first | with_reducible exact k_M_2 | (simp [go_sem, k_M_2]; done) | (simp [go_sem, k_M_2, hl_M]; done) | (go_simp; done) | (simp [go_sem, k_A_0, k_A_1, k_A_2, k_E_0, k_E_1, k_E_2, k_O_0, k_O_1, k_O_2, k_N1_0, k_N1_1, k_N1_2, k_SH_0, k_SH_1, k_SH_2, k_FA_0, k_FA_1, k_FA_2, k_M_0, k_M_1, k_M_2, f_A, f_E, f_O, f_N1, f_SH, f_FA, f_M, hl_A, hl_E, hl_O, hl_N1, hl_SH, hl_FA, hl_M]; done))
        have f_M_W7 : ∀ o, W7.frozen? ⟨wd2.heap.size, o, none⟩ = false := by intro o; rw [← hW]; (first | with_reducible exact f_M o | (simp [go_sem, f_M]; done) | (simp [go_sem, f_M, hl_M]; done) | (go_simp; done) | (simp [go_sem, k_A_0, k_A_1, k_A_2, k_E_0, k_E_1, k_E_2, k_O_0, k_O_1, k_O_2, k_N1_0, k_N1_1, k_N1_2, k_SH_0, k_SH_1, k_SH_2, k_FA_0, k_FA_1, k_FA_2, k_M_0, k_M_1, k_M_2, f_A, f_E, f_O, f_N1, f_SH, f_FA, f_M, hl_A, hl_E, hl_O, hl_N1, hl_SH, hl_FA, hl_M]; done))
        have HX_M_W7 := Lib.hid (show Bn W7 (wd2.heap.size) by rw [← hW]; (repeat' (first | with_reducible exact Kp.refl _ _ | with_reducible exact HX_A.out | with_reducible exact HX_E.out | with_reducible exact HX_O.out | with_reducible exact HX_N1.out | with_reducible exact HX_SH.out | with_reducible exact HX_FA.out | with_reducible exact HX_M.out | with_reducible apply Kp.alloc | with_reducible apply Kp.drew | (with_reducible refine Kp.put ?_ ?_ ?_ _; rotate_left; (focus (first | omega | (simp; done) | (simp; omega))); rotate_left) | (with_reducible refine Bn.new _ _ _ _ ?_ ?_; (focus (first | omega | (simp; done) | (simp; omega))); decide) | with_reducible apply Bn.alloc | with_reducible apply Bn.drew | with_reducible apply Bn.set)))
        have HK_W7 := Lib.hid (show Kp N wg2 W7 by rw [← hW]; (repeat' (first | with_reducible exact Kp.refl _ _ | with_reducible exact HX_A.out | with_reducible exact HX_E.out | with_reducible exact HX_O.out | with_reducible exact HX_N1.out | with_reducible exact HX_SH.out | with_reducible exact HX_FA.out | with_reducible exact HX_M.out | with_reducible apply Kp.alloc | with_reducible apply Kp.drew | (with_reducible refine Kp.put ?_ ?_ ?_ _; rotate_left; (focus (first | omega | (simp; done) | (simp; omega))); rotate_left) | (with_reducible refine Bn.new _ _ _ _ ?_ ?_; (focus (first | omega | (simp; done) | (simp; omega))); decide) | with_reducible apply Bn.alloc | with_reducible apply Bn.drew | with_reducible apply Bn.set)))
        have HX1_W7 := Lib.hid (HX1.out.keep HK_W7.out)
        have HX2_W7 := Lib.hid (HX2.out.keep HK_W7.out)
        have HR8_W7 := Lib.hid (HR8.out.keep HK_W7.out)
        have HR9_W7 := Lib.hid (HR9.out.keep HK_W7.out)
        have HO1_W7 := Lib.hid (HO1.out.keep HK_W7.out)
        have HO2_W7 := Lib.hid (HO2.out.keep HK_W7.out)
        have HS1_W7 := Lib.hid (HS1.out.keep HK_W7.out)
        have HS2_W7 := Lib.hid (HS2.out.keep HK_W7.out)
        have HF1_W7 := Lib.hid (HF1.out.keep HK_W7.out)
        have HF2_W7 := Lib.hid (HF2.out.keep HK_W7.out)
        have HM1_W7 := Lib.hid (HM1.out.keep HK_W7.out)
        have HM2_W7 := Lib.hid (HM2.out.keep HK_W7.out)
        have HD1_W7 := Lib.hid (HD1.out.keep HK_W7.out)
        have HD2_W7 := Lib.hid (HD2.out.keep HK_W7.out)
        have HE1_W7 := Lib.hid (HE1.out.keep HK_W7.out)
        have HE2_W7 := Lib.hid (HE2.out.keep HK_W7.out)
        have HB_W7 := Lib.hid (show Below w.heap.size w W7 by rw [← hW]; (repeat' (first | with_reducible exact Below.refl _ _ | with_reducible exact HB.out | (with_reducible refine Below.alloc ?_ ?_ _; rotate_left; (focus (first | omega | (simp; done) | (simp; omega)))) | with_reducible apply Below.drew | (with_reducible refine Below.setCell ?_ ?_ _; rotate_left; (focus (first | omega | (simp; done) | (simp; omega)))))))
        clear hW HK_W7
        clear hl_A f_A HX_A k_A_0 k_A_1 k_A_2 hl_E f_E HX_E k_E_0 k_E_1 k_E_2 hl_O f_O HX_O k_O_0 k_O_1 k_O_2 hl_N1 f_N1 HX_N1 k_N1_0 k_N1_1 k_N1_2 hl_SH f_SH HX_SH k_SH_0 k_SH_1 k_SH_2 hl_FA f_FA HX_FA k_FA_0 k_FA_1 k_FA_2 hl_M f_M HX_M k_M_0 k_M_1 k_M_2 HX1 HX2 HR8 HR9 HO1 HO2 HS1 HS2 HF1 HF2 HM1 HM2 HD1 HD2 HE1 HE2 HB hN hs0
        have hN := hN_W7
        have HB := HB_W7
        have hs0 := hs0_W7
        have hl_A := hl_A_W7
        have f_A := f_A_W7
        have HX_A := HX_A_W7
        have k_A_0 := k_A_0_W7
        have k_A_1 := k_A_1_W7
        have k_A_2 := k_A_2_W7
        have hl_E := hl_E_W7
        have f_E := f_E_W7
        have HX_E := HX_E_W7
        have k_E_0 := k_E_0_W7
        have k_E_1 := k_E_1_W7
        have k_E_2 := k_E_2_W7
        have hl_O := hl_O_W7
        have f_O := f_O_W7
        have HX_O := HX_O_W7
        have k_O_0 := k_O_0_W7
        have k_O_1 := k_O_1_W7
        have k_O_2 := k_O_2_W7
        have hl_N1 := hl_N1_W7
        have f_N1 := f_N1_W7
        have HX_N1 := HX_N1_W7
        have k_N1_0 := k_N1_0_W7
        have k_N1_1 := k_N1_1_W7
        have k_N1_2 := k_N1_2_W7
        have hl_SH := hl_SH_W7
        have f_SH := f_SH_W7
        have HX_SH := HX_SH_W7
        have k_SH_0 := k_SH_0_W7
        have k_SH_1 := k_SH_1_W7
        have k_SH_2 := k_SH_2_W7
        have hl_FA := hl_FA_W7
        have f_FA := f_FA_W7
        have HX_FA := HX_FA_W7
        have k_FA_0 := k_FA_0_W7
        have k_FA_1 := k_FA_1_W7
        have k_FA_2 := k_FA_2_W7
        have hl_M := hl_M_W7
        have f_M := f_M_W7
        have HX_M := HX_M_W7
        have k_M_0 := k_M_0_W7
        have k_M_1 := k_M_1_W7
        have k_M_2 := k_M_2_W7
        have HX1 := HX1_W7
        have HX2 := HX2_W7
        have HR8 := HR8_W7
        have HR9 := HR9_W7
        have HO1 := HO1_W7
        have HO2 := HO2_W7
        have HS1 := HS1_W7
        have HS2 := HS2_W7
        have HF1 := HF1_W7
        have HF2 := HF2_W7
        have HM1 := HM1_W7
        have HM2 := HM2_W7
        have HD1 := HD1_W7
        have HD2 := HD2_W7
        have HE1 := HE1_W7
        have HE2 := HE2_W7
        clear hN_W7 HB_W7 hs0_W7 hl_A_W7 f_A_W7 HX_A_W7 k_A_0_W7 k_A_1_W7 k_A_2_W7 hl_E_W7 f_E_W7 HX_E_W7 k_E_0_W7 k_E_1_W7 k_E_2_W7 hl_O_W7 f_O_W7 HX_O_W7 k_O_0_W7 k_O_1_W7 k_O_2_W7 hl_N1_W7 f_N1_W7 HX_N1_W7 k_N1_0_W7 k_N1_1_W7 k_N1_2_W7 hl_SH_W7 f_SH_W7 HX_SH_W7 k_SH_0_W7 k_SH_1_W7 k_SH_2_W7 hl_FA_W7 f_FA_W7 HX_FA_W7 k_FA_0_W7 k_FA_1_W7 k_FA_2_W7 hl_M_W7 f_M_W7 HX_M_W7 k_M_0_W7 k_M_1_W7 k_M_2_W7 HX1_W7 HX2_W7 HR8_W7 HR9_W7 HO1_W7 HO2_W7 HS1_W7 HS2_W7 HF1_W7 HF2_W7 HM1_W7 HM2_W7 HD1_W7 HD2_W7 HE1_W7 HE2_W7
        go_region_held3 (fun w' => w'.cell? ⟨g, 0, none⟩ = some (.bool (decide ((p2).num < 0))) ∧ w'.cell? ⟨g, 1, none⟩ = some (.slice rx (nlen (p2).num.natAbs) cx) ∧ w'.cell? ⟨g, 2, none⟩ = some (.slice rx2 (nlen (p2).den) cx2) ∧ w'.cell? ⟨g + 1, 0, none⟩ = some (.bool s8) ∧ w'.cell? ⟨g + 1, 1, none⟩ = some (.slice a8 n8 c8) ∧ w'.cell? ⟨g + 1, 2, none⟩ = some (.slice d8 m8 e8) ∧ w'.cell? ⟨wa2.heap.size, 0, none⟩ = some (.bool (decide ((po).num < 0))) ∧ w'.cell? ⟨wa2.heap.size, 1, none⟩ = some (.slice ro (nlen (po).num.natAbs) co) ∧ w'.cell? ⟨wa2.heap.size, 2, none⟩ = some (.slice ro2 (nlen (po).den) co2) ∧ w'.cell? ⟨wd2.heap.size, 0, none⟩ = some (.bool (decide ((pm).num < 0))) ∧ w'.cell? ⟨wd2.heap.size, 1, none⟩ = some (.slice rm (nlen (pm).num.natAbs) cm) ∧ w'.cell? ⟨wd2.heap.size, 2, none⟩ = some (.slice rm2 (nlen (pm).den) cm2))
          (first | (go_keep; done) | ((try dsimp only); (repeat' apply And.intro) <;> (first | (go_keep; done) | (exact cell_keep_alloc_drew (by first | omega | (simp; omega)) (by first | assumption | go_simp)) | (exact cell_keep_alloc (by first | omega | (simp; omega)) (by first | assumption | go_simp)) | (rw [cell_set2 _ _ _ _ _ _ _ _ (by omega)]; assumption) | (rw [cell_set3 _ _ _ _ _ _ _ _ _ _ (by omega)]; assumption))))
          (first
            | (go_at_call 13; refine (rsub_any (N := N) _ _ _ _ _ _ _ _ _ _ _ _ _ _ 300 1100 po p2 _ (by exact hN) (by exact Rt.of_norm HO1.out HO2.out 300 HSo.out) (by exact Rt.of_norm HX1.out HX2.out 1100 HSa.out) (by omega) (by omega) pe HPe.out).mono ?_; rintro e wh2 ⟨rg, cg, rg2, cg2, rfl, hn, hn', hb⟩; replace hb : Below W7.heap.size W7 wh2 := (by first | exact hb | exact bel_of_drew hb); have hN_wh2 : N ≤ wh2.heap.size := Nat.le_trans hN hb.size; have hs_wh2 : W7.heap.size ≤ wh2.heap.size := hb.size; have hs0_wh2 : w.heap.size ≤ wh2.heap.size := Nat.le_trans hs0 hb.size; have hl_A_wh2 : g < wh2.heap.size := Nat.lt_of_lt_of_le hl_A hb.size; have k_A_0_wh2 : wh2.cell? ⟨g, 0, none⟩ = some (.bool (decide ((p2).num < 0))) := (hb.cell (p := ⟨g, 0, none⟩) hl_A).trans k_A_0; have k_A_1_wh2 : wh2.cell? ⟨g, 1, none⟩ = some (.slice rx (nlen (p2).num.natAbs) cx) := (hb.cell (p := ⟨g, 1, none⟩) hl_A).trans k_A_1; have k_A_2_wh2 : wh2.cell? ⟨g, 2, none⟩ = some (.slice rx2 (nlen (p2).den) cx2) := (hb.cell (p := ⟨g, 2, none⟩) hl_A).trans k_A_2; have f_A_wh2 : ∀ o, wh2.frozen? ⟨g, o, none⟩ = false := fun o => (hb.frozen (p := ⟨g, o, none⟩) hl_A).trans (f_A o); have HX_A_wh2 := Lib.hid (HX_A.out.below hb); have hl_E_wh2 : g + 1 < wh2.heap.size := Nat.lt_of_lt_of_le hl_E hb.size; have k_E_0_wh2 : wh2.cell? ⟨g + 1, 0, none⟩ = some (.bool s8) := (hb.cell (p := ⟨g + 1, 0, none⟩) hl_E).trans k_E_0; have k_E_1_wh2 : wh2.cell? ⟨g + 1, 1, none⟩ = some (.slice a8 n8 c8) := (hb.cell (p := ⟨g + 1, 1, none⟩) hl_E).trans k_E_1; have k_E_2_wh2 : wh2.cell? ⟨g + 1, 2, none⟩ = some (.slice d8 m8 e8) := (hb.cell (p := ⟨g + 1, 2, none⟩) hl_E).trans k_E_2; have f_E_wh2 : ∀ o, wh2.frozen? ⟨g + 1, o, none⟩ = false := fun o => (hb.frozen (p := ⟨g + 1, o, none⟩) hl_E).trans (f_E o); have HX_E_wh2 := Lib.hid (HX_E.out.below hb); have hl_O_wh2 : g + 1 + 1 < wh2.heap.size := Nat.lt_of_lt_of_le hl_O hb.size; have k_O_0_wh2 : wh2.cell? ⟨g + 1 + 1, 0, none⟩ = some (.bool s9) := (hb.cell (p := ⟨g + 1 + 1, 0, none⟩) hl_O).trans k_O_0; have k_O_1_wh2 : wh2.cell? ⟨g + 1 + 1, 1, none⟩ = some (.slice a9 n9 c9) := (hb.cell (p := ⟨g + 1 + 1, 1, none⟩) hl_O).trans k_O_1; have k_O_2_wh2 : wh2.cell? ⟨g + 1 + 1, 2, none⟩ = some (.slice d9 m9 e9) := (hb.cell (p := ⟨g + 1 + 1, 2, none⟩) hl_O).trans k_O_2; have f_O_wh2 : ∀ o, wh2.frozen? ⟨g + 1 + 1, o, none⟩ = false := fun o => (hb.frozen (p := ⟨g + 1 + 1, o, none⟩) hl_O).trans (f_O o); have HX_O_wh2 := Lib.hid (HX_O.out.below hb); have hl_N1_wh2 : wa2.heap.size < wh2.heap.size := Nat.lt_of_lt_of_le hl_N1 hb.size; have k_N1_0_wh2 : wh2.cell? ⟨wa2.heap.size, 0, none⟩ = some (.bool (decide ((po).num < 0))) := (hb.cell (p := ⟨wa2.heap.size, 0, none⟩) hl_N1).trans k_N1_0; have k_N1_1_wh2 : wh2.cell? ⟨wa2.heap.size, 1, none⟩ = some (.slice ro (nlen (po).num.natAbs) co) := (hb.cell (p := ⟨wa2.heap.size, 1, none⟩) hl_N1).trans k_N1_1; have k_N1_2_wh2 : wh2.cell? ⟨wa2.heap.size, 2, none⟩ = some (.slice ro2 (nlen (po).den) co2) := (hb.cell (p := ⟨wa2.heap.size, 2, none⟩) hl_N1).trans k_N1_2; have f_N1_wh2 : ∀ o, wh2.frozen? ⟨wa2.heap.size, o, none⟩ = false := fun o => (hb.frozen (p := ⟨wa2.heap.size, o, none⟩) hl_N1).trans (f_N1 o); have HX_N1_wh2 := Lib.hid (HX_N1.out.below hb); have hl_SH_wh2 : wb2.heap.size < wh2.heap.size := Nat.lt_of_lt_of_le hl_SH hb.size; have k_SH_0_wh2 : wh2.cell? ⟨wb2.heap.size, 0, none⟩ = some (.bool (decide ((sh).num < 0))) := (hb.cell (p := ⟨wb2.heap.size, 0, none⟩) hl_SH).trans k_SH_0; have k_SH_1_wh2 : wh2.cell? ⟨wb2.heap.size, 1, none⟩ = some (.slice rs (nlen (sh).num.natAbs) cs) := (hb.cell (p := ⟨wb2.heap.size, 1, none⟩) hl_SH).trans k_SH_1; have k_SH_2_wh2 : wh2.cell? ⟨wb2.heap.size, 2, none⟩ = some (.slice rs2 (nlen (sh).den) cs2) := (hb.cell (p := ⟨wb2.heap.size, 2, none⟩) hl_SH).trans k_SH_2; have f_SH_wh2 : ∀ o, wh2.frozen? ⟨wb2.heap.size, o, none⟩ = false := fun o => (hb.frozen (p := ⟨wb2.heap.size, o, none⟩) hl_SH).trans (f_SH o); have HX_SH_wh2 := Lib.hid (HX_SH.out.below hb); have hl_FA_wh2 : wc2.heap.size < wh2.heap.size := Nat.lt_of_lt_of_le hl_FA hb.size; have k_FA_0_wh2 : wh2.cell? ⟨wc2.heap.size, 0, none⟩ = some (.bool (decide ((pf).num < 0))) := (hb.cell (p := ⟨wc2.heap.size, 0, none⟩) hl_FA).trans k_FA_0; have k_FA_1_wh2 : wh2.cell? ⟨wc2.heap.size, 1, none⟩ = some (.slice rf (nlen (pf).num.natAbs) cf) := (hb.cell (p := ⟨wc2.heap.size, 1, none⟩) hl_FA).trans k_FA_1; have k_FA_2_wh2 : wh2.cell? ⟨wc2.heap.size, 2, none⟩ = some (.slice rf2 (nlen (pf).den) cf2) := (hb.cell (p := ⟨wc2.heap.size, 2, none⟩) hl_FA).trans k_FA_2; have f_FA_wh2 : ∀ o, wh2.frozen? ⟨wc2.heap.size, o, none⟩ = false := fun o => (hb.frozen (p := ⟨wc2.heap.size, o, none⟩) hl_FA).trans (f_FA o); have HX_FA_wh2 := Lib.hid (HX_FA.out.below hb); have hl_M_wh2 : wd2.heap.size < wh2.heap.size := Nat.lt_of_lt_of_le hl_M hb.size; have k_M_0_wh2 : wh2.cell? ⟨wd2.heap.size, 0, none⟩ = some (.bool (decide ((pm).num < 0))) := (hb.cell (p := ⟨wd2.heap.size, 0, none⟩) hl_M).trans k_M_0; have k_M_1_wh2 : wh2.cell? ⟨wd2.heap.size, 1, none⟩ = some (.slice rm (nlen (pm).num.natAbs) cm) := (hb.cell (p := ⟨wd2.heap.size, 1, none⟩) hl_M).trans k_M_1; have k_M_2_wh2 : wh2.cell? ⟨wd2.heap.size, 2, none⟩ = some (.slice rm2 (nlen (pm).den) cm2) := (hb.cell (p := ⟨wd2.heap.size, 2, none⟩) hl_M).trans k_M_2; have f_M_wh2 : ∀ o, wh2.frozen? ⟨wd2.heap.size, o, none⟩ = false := fun o => (hb.frozen (p := ⟨wd2.heap.size, o, none⟩) hl_M).trans (f_M o); have HX_M_wh2 := Lib.hid (HX_M.out.below hb); have HX1_wh2 := Lib.hid (HX1.out.below hb); have HX2_wh2 := Lib.hid (HX2.out.below hb); have HR8_wh2 := Lib.hid (HR8.out.below hb); have HR9_wh2 := Lib.hid (HR9.out.below hb); have HO1_wh2 := Lib.hid (HO1.out.below hb); have HO2_wh2 := Lib.hid (HO2.out.below hb); have HS1_wh2 := Lib.hid (HS1.out.below hb); have HS2_wh2 := Lib.hid (HS2.out.below hb); have HF1_wh2 := Lib.hid (HF1.out.below hb); have HF2_wh2 := Lib.hid (HF2.out.below hb); have HM1_wh2 := Lib.hid (HM1.out.below hb); have HM2_wh2 := Lib.hid (HM2.out.below hb); have HD1_wh2 := Lib.hid (HD1.out.below hb); have HD2_wh2 := Lib.hid (HD2.out.below hb); have HE1_wh2 := Lib.hid (HE1.out.below hb); have HE2_wh2 := Lib.hid (HE2.out.below hb); have HB_wh2 := Lib.hid (HB.out.trans (hb.mono hs0)); clear hb; clear hl_A f_A HX_A k_A_0 k_A_1 k_A_2 hl_E f_E HX_E k_E_0 k_E_1 k_E_2 hl_O f_O HX_O k_O_0 k_O_1 k_O_2 hl_N1 f_N1 HX_N1 k_N1_0 k_N1_1 k_N1_2 hl_SH f_SH HX_SH k_SH_0 k_SH_1 k_SH_2 hl_FA f_FA HX_FA k_FA_0 k_FA_1 k_FA_2 hl_M f_M HX_M k_M_0 k_M_1 k_M_2 HX1 HX2 HR8 HR9 HO1 HO2 HS1 HS2 HF1 HF2 HM1 HM2 HD1 HD2 HE1 HE2 HB hN hs0; have hN := hN_wh2; have HB := HB_wh2; have hs0 := hs0_wh2; have hl_A := hl_A_wh2; have f_A := f_A_wh2; have HX_A := HX_A_wh2; have k_A_0 := k_A_0_wh2; have k_A_1 := k_A_1_wh2; have k_A_2 := k_A_2_wh2; have hl_E := hl_E_wh2; have f_E := f_E_wh2; have HX_E := HX_E_wh2; have k_E_0 := k_E_0_wh2; have k_E_1 := k_E_1_wh2; have k_E_2 := k_E_2_wh2; have hl_O := hl_O_wh2; have f_O := f_O_wh2; have HX_O := HX_O_wh2; have k_O_0 := k_O_0_wh2; have k_O_1 := k_O_1_wh2; have k_O_2 := k_O_2_wh2; have hl_N1 := hl_N1_wh2; have f_N1 := f_N1_wh2; have HX_N1 := HX_N1_wh2; have k_N1_0 := k_N1_0_wh2; have k_N1_1 := k_N1_1_wh2; have k_N1_2 := k_N1_2_wh2; have hl_SH := hl_SH_wh2; have f_SH := f_SH_wh2; have HX_SH := HX_SH_wh2; have k_SH_0 := k_SH_0_wh2; have k_SH_1 := k_SH_1_wh2; have k_SH_2 := k_SH_2_wh2; have hl_FA := hl_FA_wh2; have f_FA := f_FA_wh2; have HX_FA := HX_FA_wh2; have k_FA_0 := k_FA_0_wh2; have k_FA_1 := k_FA_1_wh2; have k_FA_2 := k_FA_2_wh2; have hl_M := hl_M_wh2; have f_M := f_M_wh2; have HX_M := HX_M_wh2; have k_M_0 := k_M_0_wh2; have k_M_1 := k_M_1_wh2; have k_M_2 := k_M_2_wh2; have HX1 := HX1_wh2; have HX2 := HX2_wh2; have HR8 := HR8_wh2; have HR9 := HR9_wh2; have HO1 := HO1_wh2; have HO2 := HO2_wh2; have HS1 := HS1_wh2; have HS2 := HS2_wh2; have HF1 := HF1_wh2; have HF2 := HF2_wh2; have HM1 := HM1_wh2; have HM2 := HM2_wh2; have HD1 := HD1_wh2; have HD2 := HD2_wh2; have HE1 := HE1_wh2; have HE2 := HE2_wh2; clear hN_wh2 HB_wh2 hs0_wh2 hl_A_wh2 f_A_wh2 HX_A_wh2 k_A_0_wh2 k_A_1_wh2 k_A_2_wh2 hl_E_wh2 f_E_wh2 HX_E_wh2 k_E_0_wh2 k_E_1_wh2 k_E_2_wh2 hl_O_wh2 f_O_wh2 HX_O_wh2 k_O_0_wh2 k_O_1_wh2 k_O_2_wh2 hl_N1_wh2 f_N1_wh2 HX_N1_wh2 k_N1_0_wh2 k_N1_1_wh2 k_N1_2_wh2 hl_SH_wh2 f_SH_wh2 HX_SH_wh2 k_SH_0_wh2 k_SH_1_wh2 k_SH_2_wh2 hl_FA_wh2 f_FA_wh2 HX_FA_wh2 k_FA_0_wh2 k_FA_1_wh2 k_FA_2_wh2 hl_M_wh2 f_M_wh2 HX_M_wh2 k_M_0_wh2 k_M_1_wh2 k_M_2_wh2 HX1_wh2 HX2_wh2 HR8_wh2 HR9_wh2 HO1_wh2 HO2_wh2 HS1_wh2 HS2_wh2 HF1_wh2 HF2_wh2 HM1_wh2 HM2_wh2 HD1_wh2 HD2_wh2 HE1_wh2 HE2_wh2; have HG1 := Lib.hid hn; clear hn; have HG2 := Lib.hid hn'; clear hn'; skip)
            | (go_at_call 12; refine (rmul_any (N := N) _ _ _ _ _ _ _ _ _ _ _ _ _ _ 300 1500 q8 pe _ (by exact hN) (by exact HR8.out) (by exact Rt.of_norm HG1.out HG2.out 1500 HSe.out) (by omega) (by omega) pm HPn.out).mono ?_; rintro e wi2 ⟨rh, ch, rh2, ch2, rfl, hn, hn', hb⟩; replace hb : Below wh2.heap.size wh2 wi2 := (by first | exact hb | exact bel_of_drew hb); have hN_wi2 : N ≤ wi2.heap.size := Nat.le_trans hN hb.size; have hs_wi2 : wh2.heap.size ≤ wi2.heap.size := hb.size; have hs0_wi2 : w.heap.size ≤ wi2.heap.size := Nat.le_trans hs0 hb.size; have hl_A_wi2 : g < wi2.heap.size := Nat.lt_of_lt_of_le hl_A hb.size; have k_A_0_wi2 : wi2.cell? ⟨g, 0, none⟩ = some (.bool (decide ((p2).num < 0))) := (hb.cell (p := ⟨g, 0, none⟩) hl_A).trans k_A_0; have k_A_1_wi2 : wi2.cell? ⟨g, 1, none⟩ = some (.slice rx (nlen (p2).num.natAbs) cx) := (hb.cell (p := ⟨g, 1, none⟩) hl_A).trans k_A_1; have k_A_2_wi2 : wi2.cell? ⟨g, 2, none⟩ = some (.slice rx2 (nlen (p2).den) cx2) := (hb.cell (p := ⟨g, 2, none⟩) hl_A).trans k_A_2; have f_A_wi2 : ∀ o, wi2.frozen? ⟨g, o, none⟩ = false := fun o => (hb.frozen (p := ⟨g, o, none⟩) hl_A).trans (f_A o); have HX_A_wi2 := Lib.hid (HX_A.out.below hb); have hl_E_wi2 : g + 1 < wi2.heap.size := Nat.lt_of_lt_of_le hl_E hb.size; have k_E_0_wi2 : wi2.cell? ⟨g + 1, 0, none⟩ = some (.bool s8) := (hb.cell (p := ⟨g + 1, 0, none⟩) hl_E).trans k_E_0; have k_E_1_wi2 : wi2.cell? ⟨g + 1, 1, none⟩ = some (.slice a8 n8 c8) := (hb.cell (p := ⟨g + 1, 1, none⟩) hl_E).trans k_E_1; have k_E_2_wi2 : wi2.cell? ⟨g + 1, 2, none⟩ = some (.slice d8 m8 e8) := (hb.cell (p := ⟨g + 1, 2, none⟩) hl_E).trans k_E_2; have f_E_wi2 : ∀ o, wi2.frozen? ⟨g + 1, o, none⟩ = false := fun o => (hb.frozen (p := ⟨g + 1, o, none⟩) hl_E).trans (f_E o); have HX_E_wi2 := Lib.hid (HX_E.out.below hb); have hl_O_wi2 : g + 1 + 1 < wi2.heap.size := Nat.lt_of_lt_of_le hl_O hb.size; have k_O_0_wi2 : wi2.cell? ⟨g + 1 + 1, 0, none⟩ = some (.bool s9) := (hb.cell (p := ⟨g + 1 + 1, 0, none⟩) hl_O).trans k_O_0; have k_O_1_wi2 : wi2.cell? ⟨g + 1 + 1, 1, none⟩ = some (.slice a9 n9 c9) := (hb.cell (p := ⟨g + 1 + 1, 1, none⟩) hl_O).trans k_O_1; have k_O_2_wi2 : wi2.cell? ⟨g + 1 + 1, 2, none⟩ = some (.slice d9 m9 e9) := (hb.cell (p := ⟨g + 1 + 1, 2, none⟩) hl_O).trans k_O_2; have f_O_wi2 : ∀ o, wi2.frozen? ⟨g + 1 + 1, o, none⟩ = false := fun o => (hb.frozen (p := ⟨g + 1 + 1, o, none⟩) hl_O).trans (f_O o); have HX_O_wi2 := Lib.hid (HX_O.out.below hb); have hl_N1_wi2 : wa2.heap.size < wi2.heap.size := Nat.lt_of_lt_of_le hl_N1 hb.size; have k_N1_0_wi2 : wi2.cell? ⟨wa2.heap.size, 0, none⟩ = some (.bool (decide ((po).num < 0))) := (hb.cell (p := ⟨wa2.heap.size, 0, none⟩) hl_N1).trans k_N1_0; have k_N1_1_wi2 : wi2.cell? ⟨wa2.heap.size, 1, none⟩ = some (.slice ro (nlen (po).num.natAbs) co) := (hb.cell (p := ⟨wa2.heap.size, 1, none⟩) hl_N1).trans k_N1_1; have k_N1_2_wi2 : wi2.cell? ⟨wa2.heap.size, 2, none⟩ = some (.slice ro2 (nlen (po).den) co2) := (hb.cell (p := ⟨wa2.heap.size, 2, none⟩) hl_N1).trans k_N1_2; have f_N1_wi2 : ∀ o, wi2.frozen? ⟨wa2.heap.size, o, none⟩ = false := fun o => (hb.frozen (p := ⟨wa2.heap.size, o, none⟩) hl_N1).trans (f_N1 o); have HX_N1_wi2 := Lib.hid (HX_N1.out.below hb); have hl_SH_wi2 : wb2.heap.size < wi2.heap.size := Nat.lt_of_lt_of_le hl_SH hb.size; have k_SH_0_wi2 : wi2.cell? ⟨wb2.heap.size, 0, none⟩ = some (.bool (decide ((sh).num < 0))) := (hb.cell (p := ⟨wb2.heap.size, 0, none⟩) hl_SH).trans k_SH_0; have k_SH_1_wi2 : wi2.cell? ⟨wb2.heap.size, 1, none⟩ = some (.slice rs (nlen (sh).num.natAbs) cs) := (hb.cell (p := ⟨wb2.heap.size, 1, none⟩) hl_SH).trans k_SH_1; have k_SH_2_wi2 : wi2.cell? ⟨wb2.heap.size, 2, none⟩ = some (.slice rs2 (nlen (sh).den) cs2) := (hb.cell (p := ⟨wb2.heap.size, 2, none⟩) hl_SH).trans k_SH_2; have f_SH_wi2 : ∀ o, wi2.frozen? ⟨wb2.heap.size, o, none⟩ = false := fun o => (hb.frozen (p := ⟨wb2.heap.size, o, none⟩) hl_SH).trans (f_SH o); have HX_SH_wi2 := Lib.hid (HX_SH.out.below hb); have hl_FA_wi2 : wc2.heap.size < wi2.heap.size := Nat.lt_of_lt_of_le hl_FA hb.size; have k_FA_0_wi2 : wi2.cell? ⟨wc2.heap.size, 0, none⟩ = some (.bool (decide ((pf).num < 0))) := (hb.cell (p := ⟨wc2.heap.size, 0, none⟩) hl_FA).trans k_FA_0; have k_FA_1_wi2 : wi2.cell? ⟨wc2.heap.size, 1, none⟩ = some (.slice rf (nlen (pf).num.natAbs) cf) := (hb.cell (p := ⟨wc2.heap.size, 1, none⟩) hl_FA).trans k_FA_1; have k_FA_2_wi2 : wi2.cell? ⟨wc2.heap.size, 2, none⟩ = some (.slice rf2 (nlen (pf).den) cf2) := (hb.cell (p := ⟨wc2.heap.size, 2, none⟩) hl_FA).trans k_FA_2; have f_FA_wi2 : ∀ o, wi2.frozen? ⟨wc2.heap.size, o, none⟩ = false := fun o => (hb.frozen (p := ⟨wc2.heap.size, o, none⟩) hl_FA).trans (f_FA o); have HX_FA_wi2 := Lib.hid (HX_FA.out.below hb); have hl_M_wi2 : wd2.heap.size < wi2.heap.size := Nat.lt_of_lt_of_le hl_M hb.size; have k_M_0_wi2 : wi2.cell? ⟨wd2.heap.size, 0, none⟩ = some (.bool (decide ((pm).num < 0))) := (hb.cell (p := ⟨wd2.heap.size, 0, none⟩) hl_M).trans k_M_0; have k_M_1_wi2 : wi2.cell? ⟨wd2.heap.size, 1, none⟩ = some (.slice rm (nlen (pm).num.natAbs) cm) := (hb.cell (p := ⟨wd2.heap.size, 1, none⟩) hl_M).trans k_M_1; have k_M_2_wi2 : wi2.cell? ⟨wd2.heap.size, 2, none⟩ = some (.slice rm2 (nlen (pm).den) cm2) := (hb.cell (p := ⟨wd2.heap.size, 2, none⟩) hl_M).trans k_M_2; have f_M_wi2 : ∀ o, wi2.frozen? ⟨wd2.heap.size, o, none⟩ = false := fun o => (hb.frozen (p := ⟨wd2.heap.size, o, none⟩) hl_M).trans (f_M o); have HX_M_wi2 := Lib.hid (HX_M.out.below hb); have HX1_wi2 := Lib.hid (HX1.out.below hb); have HX2_wi2 := Lib.hid (HX2.out.below hb); have HR8_wi2 := Lib.hid (HR8.out.below hb); have HR9_wi2 := Lib.hid (HR9.out.below hb); have HO1_wi2 := Lib.hid (HO1.out.below hb); have HO2_wi2 := Lib.hid (HO2.out.below hb); have HS1_wi2 := Lib.hid (HS1.out.below hb); have HS2_wi2 := Lib.hid (HS2.out.below hb); have HF1_wi2 := Lib.hid (HF1.out.below hb); have HF2_wi2 := Lib.hid (HF2.out.below hb); have HM1_wi2 := Lib.hid (HM1.out.below hb); have HM2_wi2 := Lib.hid (HM2.out.below hb); have HD1_wi2 := Lib.hid (HD1.out.below hb); have HD2_wi2 := Lib.hid (HD2.out.below hb); have HE1_wi2 := Lib.hid (HE1.out.below hb); have HE2_wi2 := Lib.hid (HE2.out.below hb); have HG1_wi2 := Lib.hid (HG1.out.below hb); have HG2_wi2 := Lib.hid (HG2.out.below hb); have HB_wi2 := Lib.hid (HB.out.trans (hb.mono hs0)); clear hb; clear hl_A f_A HX_A k_A_0 k_A_1 k_A_2 hl_E f_E HX_E k_E_0 k_E_1 k_E_2 hl_O f_O HX_O k_O_0 k_O_1 k_O_2 hl_N1 f_N1 HX_N1 k_N1_0 k_N1_1 k_N1_2 hl_SH f_SH HX_SH k_SH_0 k_SH_1 k_SH_2 hl_FA f_FA HX_FA k_FA_0 k_FA_1 k_FA_2 hl_M f_M HX_M k_M_0 k_M_1 k_M_2 HX1 HX2 HR8 HR9 HO1 HO2 HS1 HS2 HF1 HF2 HM1 HM2 HD1 HD2 HE1 HE2 HG1 HG2 HB hN hs0; have hN := hN_wi2; have HB := HB_wi2; have hs0 := hs0_wi2; have hl_A := hl_A_wi2; have f_A := f_A_wi2; have HX_A := HX_A_wi2; have k_A_0 := k_A_0_wi2; have k_A_1 := k_A_1_wi2; have k_A_2 := k_A_2_wi2; have hl_E := hl_E_wi2; have f_E := f_E_wi2; have HX_E := HX_E_wi2; have k_E_0 := k_E_0_wi2; have k_E_1 := k_E_1_wi2; have k_E_2 := k_E_2_wi2; have hl_O := hl_O_wi2; have f_O := f_O_wi2; have HX_O := HX_O_wi2; have k_O_0 := k_O_0_wi2; have k_O_1 := k_O_1_wi2; have k_O_2 := k_O_2_wi2; have hl_N1 := hl_N1_wi2; have f_N1 := f_N1_wi2; have HX_N1 := HX_N1_wi2; have k_N1_0 := k_N1_0_wi2; have k_N1_1 := k_N1_1_wi2; have k_N1_2 := k_N1_2_wi2; have hl_SH := hl_SH_wi2; have f_SH := f_SH_wi2; have HX_SH := HX_SH_wi2; have k_SH_0 := k_SH_0_wi2; have k_SH_1 := k_SH_1_wi2; have k_SH_2 := k_SH_2_wi2; have hl_FA := hl_FA_wi2; have f_FA := f_FA_wi2; have HX_FA := HX_FA_wi2; have k_FA_0 := k_FA_0_wi2; have k_FA_1 := k_FA_1_wi2; have k_FA_2 := k_FA_2_wi2; have hl_M := hl_M_wi2; have f_M := f_M_wi2; have HX_M := HX_M_wi2; have k_M_0 := k_M_0_wi2; have k_M_1 := k_M_1_wi2; have k_M_2 := k_M_2_wi2; have HX1 := HX1_wi2; have HX2 := HX2_wi2; have HR8 := HR8_wi2; have HR9 := HR9_wi2; have HO1 := HO1_wi2; have HO2 := HO2_wi2; have HS1 := HS1_wi2; have HS2 := HS2_wi2; have HF1 := HF1_wi2; have HF2 := HF2_wi2; have HM1 := HM1_wi2; have HM2 := HM2_wi2; have HD1 := HD1_wi2; have HD2 := HD2_wi2; have HE1 := HE1_wi2; have HE2 := HE2_wi2; have HG1 := HG1_wi2; have HG2 := HG2_wi2; clear hN_wi2 HB_wi2 hs0_wi2 hl_A_wi2 f_A_wi2 HX_A_wi2 k_A_0_wi2 k_A_1_wi2 k_A_2_wi2 hl_E_wi2 f_E_wi2 HX_E_wi2 k_E_0_wi2 k_E_1_wi2 k_E_2_wi2 hl_O_wi2 f_O_wi2 HX_O_wi2 k_O_0_wi2 k_O_1_wi2 k_O_2_wi2 hl_N1_wi2 f_N1_wi2 HX_N1_wi2 k_N1_0_wi2 k_N1_1_wi2 k_N1_2_wi2 hl_SH_wi2 f_SH_wi2 HX_SH_wi2 k_SH_0_wi2 k_SH_1_wi2 k_SH_2_wi2 hl_FA_wi2 f_FA_wi2 HX_FA_wi2 k_FA_0_wi2 k_FA_1_wi2 k_FA_2_wi2 hl_M_wi2 f_M_wi2 HX_M_wi2 k_M_0_wi2 k_M_1_wi2 k_M_2_wi2 HX1_wi2 HX2_wi2 HR8_wi2 HR9_wi2 HO1_wi2 HO2_wi2 HS1_wi2 HS2_wi2 HF1_wi2 HF2_wi2 HM1_wi2 HM2_wi2 HD1_wi2 HD2_wi2 HE1_wi2 HE2_wi2 HG1_wi2 HG2_wi2; have HH1 := Lib.hid hn; clear hn; have HH2 := Lib.hid hn'; clear hn'; skip)
            | (go_at_call 11; refine (same25_any (N := N) _ _ _ _ _ _ pm.num.natAbs _ pm.den _ _ _ _ _ (by exact HM1.out) (by exact HM2.out) (by exact HH1.out) (by exact HH2.out)).mono ?_; rintro e wj2 ⟨rfl, hb⟩; replace hb : Below wi2.heap.size wi2 wj2 := (by first | exact hb | exact bel_of_drew hb); have hN_wj2 : N ≤ wj2.heap.size := Nat.le_trans hN hb.size; have hs_wj2 : wi2.heap.size ≤ wj2.heap.size := hb.size; have hs0_wj2 : w.heap.size ≤ wj2.heap.size := Nat.le_trans hs0 hb.size; have hl_A_wj2 : g < wj2.heap.size := Nat.lt_of_lt_of_le hl_A hb.size; have k_A_0_wj2 : wj2.cell? ⟨g, 0, none⟩ = some (.bool (decide ((p2).num < 0))) := (hb.cell (p := ⟨g, 0, none⟩) hl_A).trans k_A_0; have k_A_1_wj2 : wj2.cell? ⟨g, 1, none⟩ = some (.slice rx (nlen (p2).num.natAbs) cx) := (hb.cell (p := ⟨g, 1, none⟩) hl_A).trans k_A_1; have k_A_2_wj2 : wj2.cell? ⟨g, 2, none⟩ = some (.slice rx2 (nlen (p2).den) cx2) := (hb.cell (p := ⟨g, 2, none⟩) hl_A).trans k_A_2; have f_A_wj2 : ∀ o, wj2.frozen? ⟨g, o, none⟩ = false := fun o => (hb.frozen (p := ⟨g, o, none⟩) hl_A).trans (f_A o); have HX_A_wj2 := Lib.hid (HX_A.out.below hb); have hl_E_wj2 : g + 1 < wj2.heap.size := Nat.lt_of_lt_of_le hl_E hb.size; have k_E_0_wj2 : wj2.cell? ⟨g + 1, 0, none⟩ = some (.bool s8) := (hb.cell (p := ⟨g + 1, 0, none⟩) hl_E).trans k_E_0; have k_E_1_wj2 : wj2.cell? ⟨g + 1, 1, none⟩ = some (.slice a8 n8 c8) := (hb.cell (p := ⟨g + 1, 1, none⟩) hl_E).trans k_E_1; have k_E_2_wj2 : wj2.cell? ⟨g + 1, 2, none⟩ = some (.slice d8 m8 e8) := (hb.cell (p := ⟨g + 1, 2, none⟩) hl_E).trans k_E_2; have f_E_wj2 : ∀ o, wj2.frozen? ⟨g + 1, o, none⟩ = false := fun o => (hb.frozen (p := ⟨g + 1, o, none⟩) hl_E).trans (f_E o); have HX_E_wj2 := Lib.hid (HX_E.out.below hb); have hl_O_wj2 : g + 1 + 1 < wj2.heap.size := Nat.lt_of_lt_of_le hl_O hb.size; have k_O_0_wj2 : wj2.cell? ⟨g + 1 + 1, 0, none⟩ = some (.bool s9) := (hb.cell (p := ⟨g + 1 + 1, 0, none⟩) hl_O).trans k_O_0; have k_O_1_wj2 : wj2.cell? ⟨g + 1 + 1, 1, none⟩ = some (.slice a9 n9 c9) := (hb.cell (p := ⟨g + 1 + 1, 1, none⟩) hl_O).trans k_O_1; have k_O_2_wj2 : wj2.cell? ⟨g + 1 + 1, 2, none⟩ = some (.slice d9 m9 e9) := (hb.cell (p := ⟨g + 1 + 1, 2, none⟩) hl_O).trans k_O_2; have f_O_wj2 : ∀ o, wj2.frozen? ⟨g + 1 + 1, o, none⟩ = false := fun o => (hb.frozen (p := ⟨g + 1 + 1, o, none⟩) hl_O).trans (f_O o); have HX_O_wj2 := Lib.hid (HX_O.out.below hb); have hl_N1_wj2 : wa2.heap.size < wj2.heap.size := Nat.lt_of_lt_of_le hl_N1 hb.size; have k_N1_0_wj2 : wj2.cell? ⟨wa2.heap.size, 0, none⟩ = some (.bool (decide ((po).num < 0))) := (hb.cell (p := ⟨wa2.heap.size, 0, none⟩) hl_N1).trans k_N1_0; have k_N1_1_wj2 : wj2.cell? ⟨wa2.heap.size, 1, none⟩ = some (.slice ro (nlen (po).num.natAbs) co) := (hb.cell (p := ⟨wa2.heap.size, 1, none⟩) hl_N1).trans k_N1_1; have k_N1_2_wj2 : wj2.cell? ⟨wa2.heap.size, 2, none⟩ = some (.slice ro2 (nlen (po).den) co2) := (hb.cell (p := ⟨wa2.heap.size, 2, none⟩) hl_N1).trans k_N1_2; have f_N1_wj2 : ∀ o, wj2.frozen? ⟨wa2.heap.size, o, none⟩ = false := fun o => (hb.frozen (p := ⟨wa2.heap.size, o, none⟩) hl_N1).trans (f_N1 o); have HX_N1_wj2 := Lib.hid (HX_N1.out.below hb); have hl_SH_wj2 : wb2.heap.size < wj2.heap.size := Nat.lt_of_lt_of_le hl_SH hb.size; have k_SH_0_wj2 : wj2.cell? ⟨wb2.heap.size, 0, none⟩ = some (.bool (decide ((sh).num < 0))) := (hb.cell (p := ⟨wb2.heap.size, 0, none⟩) hl_SH).trans k_SH_0; have k_SH_1_wj2 : wj2.cell? ⟨wb2.heap.size, 1, none⟩ = some (.slice rs (nlen (sh).num.natAbs) cs) := (hb.cell (p := ⟨wb2.heap.size, 1, none⟩) hl_SH).trans k_SH_1; have k_SH_2_wj2 : wj2.cell? ⟨wb2.heap.size, 2, none⟩ = some (.slice rs2 (nlen (sh).den) cs2) := (hb.cell (p := ⟨wb2.heap.size, 2, none⟩) hl_SH).trans k_SH_2; have f_SH_wj2 : ∀ o, wj2.frozen? ⟨wb2.heap.size, o, none⟩ = false := fun o => (hb.frozen (p := ⟨wb2.heap.size, o, none⟩) hl_SH).trans (f_SH o); have HX_SH_wj2 := Lib.hid (HX_SH.out.below hb); have hl_FA_wj2 : wc2.heap.size < wj2.heap.size := Nat.lt_of_lt_of_le hl_FA hb.size; have k_FA_0_wj2 : wj2.cell? ⟨wc2.heap.size, 0, none⟩ = some (.bool (decide ((pf).num < 0))) := (hb.cell (p := ⟨wc2.heap.size, 0, none⟩) hl_FA).trans k_FA_0; have k_FA_1_wj2 : wj2.cell? ⟨wc2.heap.size, 1, none⟩ = some (.slice rf (nlen (pf).num.natAbs) cf) := (hb.cell (p := ⟨wc2.heap.size, 1, none⟩) hl_FA).trans k_FA_1; have k_FA_2_wj2 : wj2.cell? ⟨wc2.heap.size, 2, none⟩ = some (.slice rf2 (nlen (pf).den) cf2) := (hb.cell (p := ⟨wc2.heap.size, 2, none⟩) hl_FA).trans k_FA_2; have f_FA_wj2 : ∀ o, wj2.frozen? ⟨wc2.heap.size, o, none⟩ = false := fun o => (hb.frozen (p := ⟨wc2.heap.size, o, none⟩) hl_FA).trans (f_FA o); have HX_FA_wj2 := Lib.hid (HX_FA.out.below hb); have hl_M_wj2 : wd2.heap.size < wj2.heap.size := Nat.lt_of_lt_of_le hl_M hb.size; have k_M_0_wj2 : wj2.cell? ⟨wd2.heap.size, 0, none⟩ = some (.bool (decide ((pm).num < 0))) := (hb.cell (p := ⟨wd2.heap.size, 0, none⟩) hl_M).trans k_M_0; have k_M_1_wj2 : wj2.cell? ⟨wd2.heap.size, 1, none⟩ = some (.slice rm (nlen (pm).num.natAbs) cm) := (hb.cell (p := ⟨wd2.heap.size, 1, none⟩) hl_M).trans k_M_1; have k_M_2_wj2 : wj2.cell? ⟨wd2.heap.size, 2, none⟩ = some (.slice rm2 (nlen (pm).den) cm2) := (hb.cell (p := ⟨wd2.heap.size, 2, none⟩) hl_M).trans k_M_2; have f_M_wj2 : ∀ o, wj2.frozen? ⟨wd2.heap.size, o, none⟩ = false := fun o => (hb.frozen (p := ⟨wd2.heap.size, o, none⟩) hl_M).trans (f_M o); have HX_M_wj2 := Lib.hid (HX_M.out.below hb); have HX1_wj2 := Lib.hid (HX1.out.below hb); have HX2_wj2 := Lib.hid (HX2.out.below hb); have HR8_wj2 := Lib.hid (HR8.out.below hb); have HR9_wj2 := Lib.hid (HR9.out.below hb); have HO1_wj2 := Lib.hid (HO1.out.below hb); have HO2_wj2 := Lib.hid (HO2.out.below hb); have HS1_wj2 := Lib.hid (HS1.out.below hb); have HS2_wj2 := Lib.hid (HS2.out.below hb); have HF1_wj2 := Lib.hid (HF1.out.below hb); have HF2_wj2 := Lib.hid (HF2.out.below hb); have HM1_wj2 := Lib.hid (HM1.out.below hb); have HM2_wj2 := Lib.hid (HM2.out.below hb); have HD1_wj2 := Lib.hid (HD1.out.below hb); have HD2_wj2 := Lib.hid (HD2.out.below hb); have HE1_wj2 := Lib.hid (HE1.out.below hb); have HE2_wj2 := Lib.hid (HE2.out.below hb); have HG1_wj2 := Lib.hid (HG1.out.below hb); have HG2_wj2 := Lib.hid (HG2.out.below hb); have HH1_wj2 := Lib.hid (HH1.out.below hb); have HH2_wj2 := Lib.hid (HH2.out.below hb); have HB_wj2 := Lib.hid (HB.out.trans (hb.mono hs0)); clear hb; clear hl_A f_A HX_A k_A_0 k_A_1 k_A_2 hl_E f_E HX_E k_E_0 k_E_1 k_E_2 hl_O f_O HX_O k_O_0 k_O_1 k_O_2 hl_N1 f_N1 HX_N1 k_N1_0 k_N1_1 k_N1_2 hl_SH f_SH HX_SH k_SH_0 k_SH_1 k_SH_2 hl_FA f_FA HX_FA k_FA_0 k_FA_1 k_FA_2 hl_M f_M HX_M k_M_0 k_M_1 k_M_2 HX1 HX2 HR8 HR9 HO1 HO2 HS1 HS2 HF1 HF2 HM1 HM2 HD1 HD2 HE1 HE2 HG1 HG2 HH1 HH2 HB hN hs0; have hN := hN_wj2; have HB := HB_wj2; have hs0 := hs0_wj2; have hl_A := hl_A_wj2; have f_A := f_A_wj2; have HX_A := HX_A_wj2; have k_A_0 := k_A_0_wj2; have k_A_1 := k_A_1_wj2; have k_A_2 := k_A_2_wj2; have hl_E := hl_E_wj2; have f_E := f_E_wj2; have HX_E := HX_E_wj2; have k_E_0 := k_E_0_wj2; have k_E_1 := k_E_1_wj2; have k_E_2 := k_E_2_wj2; have hl_O := hl_O_wj2; have f_O := f_O_wj2; have HX_O := HX_O_wj2; have k_O_0 := k_O_0_wj2; have k_O_1 := k_O_1_wj2; have k_O_2 := k_O_2_wj2; have hl_N1 := hl_N1_wj2; have f_N1 := f_N1_wj2; have HX_N1 := HX_N1_wj2; have k_N1_0 := k_N1_0_wj2; have k_N1_1 := k_N1_1_wj2; have k_N1_2 := k_N1_2_wj2; have hl_SH := hl_SH_wj2; have f_SH := f_SH_wj2; have HX_SH := HX_SH_wj2; have k_SH_0 := k_SH_0_wj2; have k_SH_1 := k_SH_1_wj2; have k_SH_2 := k_SH_2_wj2; have hl_FA := hl_FA_wj2; have f_FA := f_FA_wj2; have HX_FA := HX_FA_wj2; have k_FA_0 := k_FA_0_wj2; have k_FA_1 := k_FA_1_wj2; have k_FA_2 := k_FA_2_wj2; have hl_M := hl_M_wj2; have f_M := f_M_wj2; have HX_M := HX_M_wj2; have k_M_0 := k_M_0_wj2; have k_M_1 := k_M_1_wj2; have k_M_2 := k_M_2_wj2; have HX1 := HX1_wj2; have HX2 := HX2_wj2; have HR8 := HR8_wj2; have HR9 := HR9_wj2; have HO1 := HO1_wj2; have HO2 := HO2_wj2; have HS1 := HS1_wj2; have HS2 := HS2_wj2; have HF1 := HF1_wj2; have HF2 := HF2_wj2; have HM1 := HM1_wj2; have HM2 := HM2_wj2; have HD1 := HD1_wj2; have HD2 := HD2_wj2; have HE1 := HE1_wj2; have HE2 := HE2_wj2; have HG1 := HG1_wj2; have HG2 := HG2_wj2; have HH1 := HH1_wj2; have HH2 := HH2_wj2; clear hN_wj2 HB_wj2 hs0_wj2 hl_A_wj2 f_A_wj2 HX_A_wj2 k_A_0_wj2 k_A_1_wj2 k_A_2_wj2 hl_E_wj2 f_E_wj2 HX_E_wj2 k_E_0_wj2 k_E_1_wj2 k_E_2_wj2 hl_O_wj2 f_O_wj2 HX_O_wj2 k_O_0_wj2 k_O_1_wj2 k_O_2_wj2 hl_N1_wj2 f_N1_wj2 HX_N1_wj2 k_N1_0_wj2 k_N1_1_wj2 k_N1_2_wj2 hl_SH_wj2 f_SH_wj2 HX_SH_wj2 k_SH_0_wj2 k_SH_1_wj2 k_SH_2_wj2 hl_FA_wj2 f_FA_wj2 HX_FA_wj2 k_FA_0_wj2 k_FA_1_wj2 k_FA_2_wj2 hl_M_wj2 f_M_wj2 HX_M_wj2 k_M_0_wj2 k_M_1_wj2 k_M_2_wj2 HX1_wj2 HX2_wj2 HR8_wj2 HR9_wj2 HO1_wj2 HO2_wj2 HS1_wj2 HS2_wj2 HF1_wj2 HF2_wj2 HM1_wj2 HM2_wj2 HD1_wj2 HD2_wj2 HE1_wj2 HE2_wj2 HG1_wj2 HG2_wj2 HH1_wj2 HH2_wj2; skip))
        go_wp2_with fail
        go_ret
        exact ⟨rfl, HB.out⟩

theorem parts_walk {N : Nat} (a : Option Addr) (n cap : Nat) (ra : Nat → Option Addr) (rn rc : Nat → Nat) (z : Nat → Nat → Int) (w : World) (hN : N ≤ w.heap.size) (h : Rw w a n cap ra rn rc z) :
    Calls Try.prog 3 #[.slice a n cap] w fun e w' => e = .returned (.bool true) ∧ Below w.heap.size w w' := by
  by_cases hbad : n = 0 ∨ 12 < n ∨ 5 < rn 0
  · exact parts_out a n cap ra rn rc z w hN h hbad
  · by_cases hc : rowsC n rn z = 0
    · by_cases hv : cov (totZ z (rn 0)) (totZ z (rn 0)) n = 0
      · exact parts_no (N := N) a n cap ra rn rc z w hN h (by omega) (by omega) (by omega) 0 0 20 (fun w' hN' h' => rel_ok a n cap ra rn rc z w' hN' h' hc (rn 0) rfl 0 0 20 _ rfl (.inl ⟨hv, rfl, rfl, rfl⟩)) (by decide)
      · exact parts_ok (N := N) a n cap ra rn rc z w hN h (by omega) (by omega) (rn 0) rfl (by omega) hc _ rfl hv
    · exact parts_no (N := N) a n cap ra rn rc z w hN h (by omega) (by omega) (by omega) 0 0 _ (fun w' hN' h' => rel_no a n cap ra rn rc z w' hN' h' _ rfl hc 0 rfl) hc

theorem Try.cellsInts : Try.prog.cellsOf 24 = 1 := by kernel_rfl
theorem Try.cellsI : Try.prog.cellsOf 3 = 1 := by kernel_rfl
section
variable {H : Type} {enc : TypeId × Value → H} {W : World} {fuel : Nat}
theorem trod_ints {c : Value} {x : DataW H × List MemPlace} (h : DataW.trod enc Try.prog W 0 (fun _ => true) true fuel 24 [c] = some x) : ∃ a n cap z, c = .slice a n cap ∧ Is W a n cap z := by
  rcases open_ints Try.underlying24 Try.underlying3 Try.cellsI h with ⟨hcs, _⟩ | ⟨a, len, cap, zs, hcs, _, hl, hm, hzl, _, hcell, hwf⟩
  · simp at hcs
    exact ⟨none, 0, 0, fun _ => 0, hcs, Nat.le_refl _, Nat.zero_le _, fun h => by omega⟩
  · simp at hcs hzl
    refine ⟨_, _, _, fun i => zs.getD i 0, hcs, hl, hm, fun hn => ?_⟩
    obtain ⟨b, off, spot⟩ := a
    have hspot : spot = none := by simpa [Addr.add] using World.cell?_spot (hcell 0 (by omega))
    subst hspot
    refine ⟨b, off, rfl, fun i hi => ?_⟩
    have h1 := hcell i (by omega)
    rw [add_none] at h1
    exact h1
theorem open_rows {a : Option Addr} {n cap : Nat} {d : DataW H} {p : List MemPlace} (h : DataW.Trod enc Try.prog W 0 (fun _ => true) true 22 (.slice a n cap) d p) : ∃ ra rn rc z, Rw W a n cap ra rn rc z := by
  obtain ⟨fuel, hf⟩ := h
  have hf2 : DataW.trod enc Try.prog W 0 (fun _ => true) true fuel 22 [.slice a n cap] = some (d, p) := by simpa [Value.cells] using hf
  rcases open_slice Try.underlying22 hf2 with ⟨hcs, _⟩ | ⟨ad, len, cp, m, k, D, Pl, hcs, _, hl, hm, hmm, _, hx⟩
  · simp at hcs
    obtain ⟨rfl, rfl, rfl⟩ := hcs
    exact ⟨fun _ => none, fun _ => 0, fun _ => 0, fun _ _ => 0, Nat.le_refl _, Nat.zero_le _, fun h => by omega⟩
  · simp at hcs hmm
    obtain ⟨rfl, rfl, rfl⟩ := hcs
    subst hmm
    have key : ∀ i, i < m → ∃ y : Option Addr × Nat × Nat × (Nat → Int), W.cell? (ad.add (i * 1)) = some (.slice y.1 y.2.1 y.2.2.1) ∧ Is W y.1 y.2.1 y.2.2.1 y.2.2.2 := by
      intro i hi
      obtain ⟨cs', hc, ht⟩ := hx i hi
      rw [Try.cellsInts] at hc
      obtain ⟨_, hcl, hat⟩ := World.cells?_some hc
      obtain ⟨c0, rfl⟩ : ∃ c0, cs' = [c0] := by
        match cs', hcl with
        | [c0], _ => exact ⟨_, rfl⟩
      obtain ⟨a', n', cap', z', rfl, hi'⟩ := trod_ints ht
      have h0 := hat 0 (by omega)
      simp [Addr.add_zero'] at h0
      exact ⟨(a', n', cap', z'), by simpa using h0, hi'⟩
    obtain ⟨y, hy⟩ := choose_lt key
    refine ⟨fun i => (y i).1, fun i => (y i).2.1, fun i => (y i).2.2.1, fun i => (y i).2.2.2, hl, hm, fun hn => ?_⟩
    obtain ⟨b, off, spot⟩ := ad
    have hspot : spot = none := by simpa [Addr.add] using World.cell?_spot (hy 0 (by omega)).1
    subst hspot
    refine ⟨b, off, rfl, fun i hi => ?_⟩
    have h2 := hy i (by omega)
    rw [add_none, Nat.mul_one] at h2
    exact h2
end

set_option maxRecDepth 100000 in
theorem classicalParts_lifted (os : Os) (started : os.Started) (H : Type) (enc : TypeId × Value → H) :
    ReturnsInHanded {} Try.checked os 3 .any (Rows.classicalPartsSpec.pre6 enc Try.prog Try.f3 Rows.classicalPartsRow.domain false) (Rows.classicalPartsSpec.post enc Try.prog Try.f3 false true false false) := by
  refine returnsInHanded_of_change (C := Try.checked) Try.own started (by kernel_rfl) Try.func3
    (ChangeSpec.witness6 (enc := enc) (C := Try.checked) false ⟨#[], #[.slice none 0 0], []⟩ 8 (by kernel_rfl) (by kernel_rfl) (by kernel_rfl) (by kernel_rfl)) ?_
  intro W base args ds gs before hval0 hW hcnd _
  have hval : ∀ (j : Nat) t v, Try.f3.params[j]? = some t → args[j]? = some v → Value.okWide Try.prog W .any base t v := hval0
  have hW' := hW
  obtain ⟨p, q, hA0, hV, rfl, hfz, hnd⟩ := hW
  have hA : DataW.TrodAll enc Try.prog W 0 (fun _ => true) true Try.f3.params.toList args.toList ds p := hA0
  rw [Try.params3] at hA hval
  obtain ⟨v0, vs0, x0, ds0, p0, q0, hargs, rfl, rfl, h0, r0⟩ := trodAll_cons hA
  obtain ⟨rfl, rfl, rfl⟩ := trodAll_nil r0
  obtain rfl : args = #[v0] := by cases args; simp_all
  obtain ⟨rfl, rfl⟩ := trodVars_none hV
  have k0 := h0
  have lt0 : ∀ x ∈ p0, x.block < W.heap.size := by obtain ⟨m, hm⟩ := k0; exact DataW.trod_lt m _ _ _ hm
  obtain ⟨a0, n0, c0, rfl⟩ := okWide_slice Try.underlying22 (hval 0 22 v0 rfl rfl); obtain ⟨ra0, rn0, rc0, z0, hr0⟩ := open_rows h0
  clear hA0 hval0
  refine (parts_walk (N := W.heap.size) a0 n0 c0 ra0 rn0 rc0 z0 W (Nat.le_refl _) hr0).mono fun e W' ⟨he, bel⟩ => ?_
  subst he
  exact ⟨_, rfl, _, _, _, [], _, [], hW', trodAll_mk1 (shut_bool Try.underlying4 _), (trodAll_cons_mk (Below.trod Try.laidOut (by kernel_rfl) (of_decide_eq_true (by kernel_rfl)) k0 bel lt0) trodAll_mk0), rfl, bel.frame _, fun h => by cases h⟩

theorem classicalParts_holds : Rows.ClassicalPartsSaid :=
  OpenClaim.holds_of_wide 3 Try.f3 rfl rfl rfl rfl rfl rfl rfl ⟨rfl, rfl, rfl, rfl, rfl⟩ rfl rfl rfl rfl rfl (by kernel_rfl) Try.func3 (by kernel_rfl)
    (of_decide_eq_true (by kernel_rfl)) (by unfold Func.isWrapper; first | (rw [if_pos (by decide +kernel)]; kernel_rfl) | (rw [if_neg (by decide +kernel)]; exact ⟨rfl, rfl⟩))
    (fun os started H enc _ => classicalParts_lifted os started H enc)
#print axioms classicalParts_holds

end Go.Proofs.Ytbjgnpgachdlaaa
