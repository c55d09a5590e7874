import Derived.Test.YtjobopafcgnljaaNulB
import Derived.Test.YtjobopafcgnljaaXnC
import Derived.Test.YtjobopafcgnljaaXnO
import Derived.Test.YtjobopafcgnljaaSmA
namespace Go.Proofs.Ytjobopafcgnljaa
open Go.RowKit
set_option maxHeartbeats 4000000 in
theorem ratios_any {N : Nat} (a b : Option Addr) (n c1 c2 : Nat) (q : Nat → Rat) (w : World) (hN : N ≤ w.heap.size) (h1 : Rn N w a n c1 q) (h2 : Rn N w b n c2 q) :
  Calls Try.prog 20 #[.slice a n c1, .slice b n c2] w fun e w' => e = .returned (.bool true) ∧ Below w.heap.size w w' := by
 have HA := Lib.hid h1
 have HC := Lib.hid h2
 have bc := h1.1
 have bm := h1.2.1
 unfold maxLen at bm
 clear h1 h2
 have hN0 := hN
 go_enter Try.func20, Try.ntmps20
 go_wp2_with fail
 go_loopw [5] (fun i wr => ∃ k : Nat, k ≤ n ∧ i = .int .i64 k ∧ Below w.heap.size w wr) (fun i _ => n - (intOf i).toNat)
 case atStart => exact ⟨0, Nat.zero_le _, rfl, Below.refl _ _⟩
 case round =>
  obtain ⟨k, hk, rfl, hbel⟩ := hrel
  have HAr := Lib.hid (HA.out.below hbel)
  have HCr := Lib.hid (HC.out.below hbel)
  have hs0 : w.heap.size ≤ wr.heap.size := hbel.size
  have HB := Lib.hid hbel
  clear hN hbel
  have hN : N ≤ wr.heap.size := by omega
  by_cases hkn : k < n
  ·obtain ⟨b1, o1, rfl, hc1⟩ := HAr.out.2.2 (by omega)
   obtain ⟨b2, o2, rfl, hc2⟩ := HCr.out.2.2 (by omega)
   obtain ⟨ra, ca_, ra2, ca2_, g0, g1, g2, n1, n2⟩ := hc1 k hkn
   obtain ⟨rb, cb_, rb2, cb2_, g3, g4, g5, n3, n4⟩ := hc2 k hkn
   obtain ⟨pq, hpq⟩ : ∃ p, q k = p := ⟨_, rfl⟩
   rw [hpq] at g0 g1 g2 g3 g4 g5 n1 n2 n3 n4
   have HN1 := Lib.hid n1
   have HN2 := Lib.hid n2
   have HN3 := Lib.hid n3
   have HN4 := Lib.hid n4
   have hl1 : b1 < wr.heap.size := World.block_lt_of_cell? wr _ g0
   have hl2 : b2 < wr.heap.size := World.block_lt_of_cell? wr _ g3
   have hix0 : (0 : Int) ≤ (k : Int) := by omega
   have hix1 : (k : Int) < (n : Int) := by omega
   clear hc1 hc2 n1 n2 n3 n4 hpq HAr HCr
   go_wp2_with fail
   go_region_held3 (fun w' => w'.cell? ⟨b1, o1 + k * 3, none⟩ = some (.bool (decide ((pq).num < 0))) ∧ w'.cell? ⟨b1, o1 + k * 3 + 1, none⟩ = some (.slice ra (nlen (pq).num.natAbs) ca_) ∧ w'.cell? ⟨b1, o1 + k * 3 + 2, none⟩ = some (.slice ra2 (nlen (pq).den) ca2_) ∧ w'.cell? ⟨b2, o2 + k * 3, none⟩ = some (.bool (decide ((pq).num < 0))) ∧ w'.cell? ⟨b2, o2 + k * 3 + 1, none⟩ = some (.slice rb (nlen (pq).num.natAbs) cb_) ∧ w'.cell? ⟨b2, o2 + k * 3 + 2, none⟩ = some (.slice rb2 (nlen (pq).den) cb2_))
    (first | (go_keep; done) | ((try dsimp only); (repeat' apply And.intro) <;> (first | (go_keep; done) | (exact cell_keep_alloc_drew (by first | omega | (simp; omega)) (by first | assumption | go_simp)) | (exact cell_keep_alloc (by first | omega | (simp; omega)) (by first | assumption | go_simp)) | (rw [cell_set2 _ _ _ _ _ _ _ _ (by omega)]; assumption) | (rw [cell_set3 _ _ _ _ _ _ _ _ _ _ (by omega)]; assumption))))
    (first
     | (go_at_call 9; refine (same31_any (N := N) _ _ _ _ _ _ pq.num.natAbs _ pq.den _ _ _ _ _ (by exact HN1.out) (by exact HN2.out) (by exact HN3.out) (by exact HN4.out)).mono ?_; rintro e wc ⟨rfl, hb⟩; replace hb : Below wr.heap.size wr wc := (by first | exact hb | exact bel_of_drew hb); have g0' : wc.cell? ⟨b1, o1 + k * 3, none⟩ = some (.bool (decide ((pq).num < 0))) := (hb.cell (p := ⟨b1, o1 + k * 3, none⟩) hl1).trans g0; have g1' : wc.cell? ⟨b1, o1 + k * 3 + 1, none⟩ = some (.slice ra (nlen (pq).num.natAbs) ca_) := (hb.cell (p := ⟨b1, o1 + k * 3 + 1, none⟩) hl1).trans g1; have g2' : wc.cell? ⟨b1, o1 + k * 3 + 2, none⟩ = some (.slice ra2 (nlen (pq).den) ca2_) := (hb.cell (p := ⟨b1, o1 + k * 3 + 2, none⟩) hl1).trans g2; have g3' : wc.cell? ⟨b2, o2 + k * 3, none⟩ = some (.bool (decide ((pq).num < 0))) := (hb.cell (p := ⟨b2, o2 + k * 3, none⟩) hl2).trans g3; have g4' : wc.cell? ⟨b2, o2 + k * 3 + 1, none⟩ = some (.slice rb (nlen (pq).num.natAbs) cb_) := (hb.cell (p := ⟨b2, o2 + k * 3 + 1, none⟩) hl2).trans g4; have g5' : wc.cell? ⟨b2, o2 + k * 3 + 2, none⟩ = some (.slice rb2 (nlen (pq).den) cb2_) := (hb.cell (p := ⟨b2, o2 + k * 3 + 2, none⟩) hl2).trans g5; have hs_wc : wr.heap.size ≤ wc.heap.size := hb.size; replace HN1 := Lib.hid (HN1.out.below hb); replace HN2 := Lib.hid (HN2.out.below hb); replace HN3 := Lib.hid (HN3.out.below hb); replace HN4 := Lib.hid (HN4.out.below hb); replace HB := Lib.hid (HB.out.trans (hb.mono hs0)); replace hN : N ≤ wc.heap.size := Nat.le_trans hN hb.size; replace hs0 : w.heap.size ≤ wc.heap.size := Nat.le_trans hs0 hb.size; clear hb; skip))
   go_wp2_with fail
   go_roundw
   case rel => exact ⟨k + 1, by omega, by go_num, HB.out⟩
   case measure => simp [intOf]; omega
  ·obtain rfl : k = n := by omega
   go_wp2_with fail
   go_ret
   exact ⟨rfl, HB.out⟩
def ErrAt (f : FuncId) (w0 : World) (args : Array Value) (c : Int) : Prop := ∀ w, Below w0.heap.size w0 w → Calls Try.prog f args w (ErrPost w c)
set_option maxHeartbeats 4000000 in
theorem nulls_bad {N : Nat} (a : Option Addr) (n ca : Nat) (q : Nat → Rat) (ln ld : Nat → Nat) (w : World) (hN : N ≤ w.heap.size) (h : Ru N w a n ca q ln ld) (c : Int) (h1 : ErrAt 10 w #[.slice a n ca] c) (h2 : ErrAt 19 w #[.slice a n ca] c) (h3 : ErrAt 21 w #[.slice a n ca] c) (h4 : ErrAt 22 w #[.slice a n ca] c) :
  Calls Try.prog 5 #[.slice a n ca] w fun e w' => e = .returned (.bool true) ∧ Below w.heap.size w w' := by
 have HU := Lib.hid h
 have bc := h.1
 have bm := h.2.1
 unfold maxLen at bm
 have H1 := Lib.hid h1
 have H2 := Lib.hid h2
 have H3 := Lib.hid h3
 have H4 := Lib.hid h4
 clear h h1 h2 h3 h4
 have zc : (c == c) = true := beq_self_eq_true c
 have zn : (c != c) = false := by simp
 have hs0 : w.heap.size ≤ w.heap.size := Nat.le_refl _
 have HB := Lib.hid (Below.refl w.heap.size w)
 go_enter Try.func5, Try.ntmps5
 go_wp2_with fail
 refine (heavy_any (N := N) _ _ _ q ln ld _ HU.out).mono ?_
 rintro e w' ⟨b, rfl, rfl, hv⟩
 cases b
 case true =>
  go_wp2_with fail
  go_ret
  exact ⟨rfl, Below.refl _ _⟩
 case false =>
  clear hv
  go_wp2_with fail
  refine (H1.out _ HB.out).mono ?_
  rintro e wa ⟨rfl, hb⟩
  have hs_wa : w.heap.size ≤ wa.heap.size := hb.size
  replace HB := Lib.hid (HB.out.trans (hb.mono hs0))
  replace hN : N ≤ wa.heap.size := Nat.le_trans hN hb.size
  replace hs0 : w.heap.size ≤ wa.heap.size := Nat.le_trans hs0 hb.size
  clear hb
  go_wp2_with fail
  refine (H2.out _ HB.out).mono ?_
  rintro e wb ⟨rfl, hb⟩
  have hs_wb : wa.heap.size ≤ wb.heap.size := hb.size
  replace HB := Lib.hid (HB.out.trans (hb.mono hs0))
  replace hN : N ≤ wb.heap.size := Nat.le_trans hN hb.size
  replace hs0 : w.heap.size ≤ wb.heap.size := Nat.le_trans hs0 hb.size
  clear hb
  go_wp2_with fail
  refine (ratios_any (N := N) none none 0 0 0 q _ hN (Rn.nil _ _ _) (Rn.nil _ _ _)).mono ?_
  rintro e wc ⟨rfl, hb⟩
  have hs_wc : wb.heap.size ≤ wc.heap.size := hb.size
  replace HB := Lib.hid (HB.out.trans (hb.mono hs0))
  replace hN : N ≤ wc.heap.size := Nat.le_trans hN hb.size
  replace hs0 : w.heap.size ≤ wc.heap.size := Nat.le_trans hs0 hb.size
  clear hb
  go_wp2_with fail
  refine (H3.out _ HB.out).mono ?_
  rintro e wd ⟨rfl, hb⟩
  have hs_wd : wc.heap.size ≤ wd.heap.size := hb.size
  replace HB := Lib.hid (HB.out.trans (hb.mono hs0))
  replace hN : N ≤ wd.heap.size := Nat.le_trans hN hb.size
  replace hs0 : w.heap.size ≤ wd.heap.size := Nat.le_trans hs0 hb.size
  clear hb
  go_wp2_with fail
  refine (H4.out _ HB.out).mono ?_
  rintro e we ⟨rfl, hb⟩
  have hs_we : wd.heap.size ≤ we.heap.size := hb.size
  replace HB := Lib.hid (HB.out.trans (hb.mono hs0))
  replace hN : N ≤ we.heap.size := Nat.le_trans hN hb.size
  replace hs0 : w.heap.size ≤ we.heap.size := Nat.le_trans hs0 hb.size
  clear hb
  go_wp2_with fail
  go_loopw [9] (fun i wr => i = .int .i64 0 ∧ we = wr) (fun _ _ => 0)
  case atStart => exact ⟨rfl, rfl⟩
  case round =>
   obtain ⟨rfl, rfl⟩ := hrel
   go_wp2_with fail
   go_ret
   exact ⟨rfl, HB.out⟩
set_option maxHeartbeats 4000000 in
set_option maxRecDepth 20000 in
theorem nulls_ok {N : Nat} (a : Option Addr) (n ca : Nat) (q : Nat → Rat) (ln ld : Nat → Nat) (w : World) (hN : N ≤ w.heap.size) (h : Ru N w a n ca q ln ld) (hr : Rs N w a n ca q 2) (hc : chkF q n = 0) :
  Calls Try.prog 5 #[.slice a n ca] w fun e w' => e = .returned (.bool true) ∧ Below w.heap.size w w' := by
 have HU := Lib.hid h
 have bc := h.1
 have bm := h.2.1
 unfold maxLen at bm
 have HR := Lib.hid hr
 have HC := Lib.hid hc
 clear h hr hc
 obtain ⟨M, hM⟩ : ∃ M, n * n / 4 + 1 = M := ⟨_, rfl⟩
 have h20 := (chkF_ok HC.out).1
 have hnn : n * n ≤ 400 := Nat.mul_le_mul h20 h20
 have hM1 : M ≤ 101 := by omega
 have HM := Lib.hid hM
 clear hM hnn
 have hs0 : w.heap.size ≤ w.heap.size := Nat.le_refl _
 have HB := Lib.hid (Below.refl w.heap.size w)
 go_enter Try.func5, Try.ntmps5
 go_wp2_with fail
 refine (heavy_any (N := N) _ _ _ q ln ld _ HU.out).mono ?_
 rintro e w' ⟨b, rfl, rfl, hv⟩
 cases b
 case true =>
  go_wp2_with fail
  go_ret
  exact ⟨rfl, Below.refl _ _⟩
 case false =>
  clear hv
  go_wp2_with fail
  refine (null_ok (N := N) _ _ _ q 2 _ hN HR.out (by omega) HC.out).mono ?_
  rw [HM.out]
  rintro e wa ⟨bg, rfl, hg0, hg1, hrl, hb⟩
  have hs_wa : w.heap.size ≤ wa.heap.size := hb.size
  replace HB := Lib.hid (HB.out.trans (hb.mono hs0))
  replace hN : N ≤ wa.heap.size := Nat.le_trans hN hb.size
  replace hs0 : w.heap.size ≤ wa.heap.size := Nat.le_trans hs0 hb.size
  replace HR := Lib.hid (HR.out.below hb)
  clear hb
  have HD := Lib.hid (hrl.rn (by unfold maxLen; omega))
  clear hrl hg0 hg1
  go_wp2_with fail
  refine (xnull_ok (N := N) _ _ _ q 2 _ hN HR.out (by omega) HC.out).mono ?_
  rw [HM.out]
  rintro e wb ⟨bx, xc, rfl, hrn, hb⟩
  have hs_wb : wa.heap.size ≤ wb.heap.size := hb.size
  replace HB := Lib.hid (HB.out.trans (hb.mono hs0))
  replace hN : N ≤ wb.heap.size := Nat.le_trans hN hb.size
  replace hs0 : w.heap.size ≤ wb.heap.size := Nat.le_trans hs0 hb.size
  replace HR := Lib.hid (HR.out.below hb)
  replace HD := Lib.hid (HD.out.below hb)
  clear hb
  have HX := Lib.hid hrn
  clear hrn
  go_wp2_with fail
  refine (ratios_any (N := N) _ _ M _ _ (nlQ q n) _ hN HD.out HX.out).mono ?_
  rintro e wc ⟨rfl, hb⟩
  have hs_wc : wb.heap.size ≤ wc.heap.size := hb.size
  replace HB := Lib.hid (HB.out.trans (hb.mono hs0))
  replace hN : N ≤ wc.heap.size := Nat.le_trans hN hb.size
  replace hs0 : w.heap.size ≤ wc.heap.size := Nat.le_trans hs0 hb.size
  replace HR := Lib.hid (HR.out.below hb)
  replace HD := Lib.hid (HD.out.below hb)
  replace HX := Lib.hid (HX.out.below hb)
  clear hb
  go_wp2_with fail
  clear HD
  clear HX
  refine (order_ok (N := N) _ _ _ q 2 _ hN HR.out (by omega) HC.out).mono ?_
  rintro e wd ⟨ob, d, rfl, ho0, ho1, hoc, hpm, hst, hb⟩
  have hs_wd : wc.heap.size ≤ wd.heap.size := hb.size
  replace HB := Lib.hid (HB.out.trans (hb.mono hs0))
  replace hN : N ≤ wd.heap.size := Nat.le_trans hN hb.size
  replace hs0 : w.heap.size ≤ wd.heap.size := Nat.le_trans hs0 hb.size
  replace HR := Lib.hid (HR.out.below hb)
  clear hb
  have HOC := Lib.hid hoc
  have HPM := Lib.hid hpm
  have HST := Lib.hid hst
  clear hoc hpm hst ho0
  go_wp2_with fail
  refine (xorder_ok (N := N) _ _ _ q 2 _ hN HR.out (by omega) HC.out d HPM.out HST.out).mono ?_
  rintro e we ⟨xa, xk, rfl, hx1, hx2, hxc, hb⟩
  have HOC2 := Lib.hid (show ∀ i, i < n → we.cell? ⟨ob, i, none⟩ = some (.int .i64 (d i : Nat)) from fun i hi => cell_mono (HOC.out i hi) hb)
  have HXC := Lib.hid hxc
  unfold maxLen at hx2
  clear hxc HOC
  have hs_we : wd.heap.size ≤ we.heap.size := hb.size
  replace HB := Lib.hid (HB.out.trans (hb.mono hs0))
  replace hN : N ≤ we.heap.size := Nat.le_trans hN hb.size
  replace hs0 : w.heap.size ≤ we.heap.size := Nat.le_trans hs0 hb.size
  replace HR := Lib.hid (HR.out.below hb)
  clear hb
  go_wp2_with fail
  go_loopw [9] (fun i wr => ∃ k : Nat, k ≤ n ∧ i = .int .i64 k ∧ Below we.heap.size we wr) (fun i _ => n - (intOf i).toNat)
  case atStart => exact ⟨0, Nat.zero_le _, rfl, Below.refl _ _⟩
  case round =>
   obtain ⟨k, hk, rfl, hbel⟩ := hrel
   have HBR := Lib.hid hbel
   by_cases hkn : k < n
   ·obtain ⟨g, rfl, hg⟩ := HXC.out (by omega)
    have hc1 := cell_mono (HOC2.out k hkn) hbel
    have hc2 := cell_mono (hg k hkn) hbel
    obtain ⟨v, hv⟩ : ∃ v : Int, ((d k : Nat) : Int) = v := ⟨_, rfl⟩
    rw [hv] at hc1 hc2
    have hix0 : (0 : Int) ≤ (k : Int) := by omega
    have hix1 : (k : Int) < (n : Int) := by omega
    clear hg hbel hv
    go_wp2_with fail
    go_quiet (fail)
    go_wp2_with fail
    go_roundw
    case rel => exact ⟨k + 1, by omega, by go_num, below_drewN HBR.out _⟩
    case measure => simp [intOf]; omega
   ·obtain rfl : k = n := by omega
    clear hbel
    go_wp2_with fail
    go_ret
    exact ⟨rfl, HB.out.trans (HBR.out.mono hs0)⟩
set_option maxHeartbeats 1000000 in
theorem nulls_heavy {N : Nat} (a : Option Addr) (n ca : Nat) (q : Nat → Rat) (ln ld : Nat → Nat) (w : World) (_hN : N ≤ w.heap.size) (h : Ru N w a n ca q ln ld) (h20 : n ≤ 20) (hh : ¬ (n ≤ 8 ∧ ∀ j, j < n → ln j ≤ 2 ∧ ld j ≤ 2)) :
  Calls Try.prog 5 #[.slice a n ca] w fun e w' => e = .returned (.bool true) ∧ Below w.heap.size w w' := by
 have HU := Lib.hid h
 have HH := Lib.hid hh
 have bc := h.1
 have bm := h.2.1
 unfold maxLen at bm
 clear h hh
 go_enter Try.func5, Try.ntmps5
 go_wp2_with fail
 refine (heavy_any (N := N) _ _ _ q ln ld _ HU.out).mono ?_
 rintro e w' ⟨b, rfl, rfl, hv⟩
 cases b
 case true =>
  go_wp2_with fail
  go_ret
  exact ⟨rfl, Below.refl _ _⟩
 case false => exact absurd (hv rfl h20) HH.out
set_option maxHeartbeats 4000000 in
theorem nulls_any {N : Nat} (a : Option Addr) (n ca : Nat) (q : Nat → Rat) (ln ld : Nat → Nat) (w : World) (hN : N ≤ w.heap.size) (h : Ru N w a n ca q ln ld) :
  Calls Try.prog 5 #[.slice a n ca] w fun e w' => e = .returned (.bool true) ∧ Below w.heap.size w w' := by
 by_cases h20 : n ≤ 20
 ·by_cases hh : n ≤ 8 ∧ ∀ j, j < n → ln j ≤ 2 ∧ ld j ≤ 2
  ·have HR : Rs N w a n ca q 2 := h.rs 2 (by omega) hh.2
   by_cases hc : chkF q n = 0
   ·exact nulls_ok (N := N) a n ca q ln ld w hN h HR hc
   ·refine nulls_bad (N := N) a n ca q ln ld w hN h (chkF q n) ?_ ?_ ?_ ?_
    ·exact fun w3 hb3 => null_bad (N := N) a n ca q 2 w3 (Nat.le_trans hN hb3.size) (HR.below hb3) (by omega) _ rfl hc
    ·exact fun w3 hb3 => xnull_bad (N := N) a n ca q 2 w3 (Nat.le_trans hN hb3.size) (HR.below hb3) (by omega) _ rfl hc
    ·exact fun w3 hb3 => order_bad (N := N) a n ca q 2 w3 (Nat.le_trans hN hb3.size) (HR.below hb3) (by omega) _ rfl hc
    ·exact fun w3 hb3 => xorder_err a n ca (chkF q n) hc w3 (xcheck_any31 (N := N) a n ca q 2 w3 (Nat.le_trans hN hb3.size) (HR.below hb3) (by omega) _ rfl)
  ·exact nulls_heavy (N := N) a n ca q ln ld w hN h h20 hh
 ·refine nulls_bad (N := N) a n ca q ln ld w hN h 5 ?_ ?_ ?_ ?_
  ·exact fun w3 _ => null_long a n ca w3 h.1 h.2.1 (by omega)
  ·exact fun w3 _ => xnull_long a n ca w3 h.1 h.2.1 (by omega)
  ·exact fun w3 _ => order_long a n ca w3 h.1 h.2.1 (by omega)
  ·exact fun w3 _ => xorder_err a n ca 5 (by decide) w3 (xcheck_long31 a n ca w3 h.1 h.2.1 (by omega))
end Go.Proofs.Ytjobopafcgnljaa
