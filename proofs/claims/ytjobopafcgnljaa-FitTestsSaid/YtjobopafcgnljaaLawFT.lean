import Derived.Test.YtjobopafcgnljaaTstA
import Derived.Test.YtjobopafcgnljaaXnC
import Derived.Test.YtjobopafcgnljaaSmA
namespace Go.Proofs.Ytjobopafcgnljaa
open Go.RowKit
def CallsAt (f : FuncId) (N : Nat) (w0 : World) (args : Array Value) (p : Rat) (c : Int) : Prop := ∀ w, Below w0.heap.size w0 w → N ≤ w.heap.size → Calls Try.prog f args w (RcPost N w p c)
set_option maxHeartbeats 4000000 in
theorem tests_walk {N : Nat} (ax a : Option Addr) (m n cx ca : Nat) (q : Nat → Rat) (ln ld : Nat → Nat) (w : World) (hN : N ≤ w.heap.size) (h : Ru N w a n ca q ln ld) (p : Rat) (c : Int) (ht1 : CallsAt 7 N w #[.slice ax m cx, .slice a n ca] p c) (ht2 : CallsAt 8 N w #[.slice ax m cx, .slice a n ca] p c) :
  Calls Try.prog 3 #[.slice ax m cx, .slice a n ca] w fun e w' => e = .returned (.bool true) ∧ Below w.heap.size w w' := by
 have HU := Lib.hid h
 have bc := h.1
 have bm := h.2.1
 unfold maxLen at bm
 have HT1 := Lib.hid ht1
 have HT2 := Lib.hid ht2
 clear h ht1 ht2
 have zc : (c == c) = true := beq_self_eq_true c
 have hs0 : w.heap.size ≤ w.heap.size := Nat.le_refl _
 have HB := Lib.hid (Below.refl w.heap.size w)
 go_enter Try.func3, Try.ntmps3
 go_wp2_with fail
 refine (heavy_any (N := N) _ _ _ q ln ld _ HU.out).mono ?_
 rintro e w' ⟨b, rfl, rfl, hv⟩
 cases b
 case true =>
  go_wp2_with fail
  go_ret
  exact ⟨rfl, Below.refl _ _⟩
 case false =>
  clear hv
  go_wp2_with fail
  refine (HT1.out _ HB.out hN).mono ?_
  rintro e wb ⟨rp, cp, rp2, cp2, rfl, hn, hn', hb⟩
  have hs_wb : w.heap.size ≤ wb.heap.size := hb.size
  replace HB := Lib.hid (HB.out.trans (hb.mono hs0))
  replace hN : N ≤ wb.heap.size := Nat.le_trans hN hb.size
  replace hs0 : w.heap.size ≤ wb.heap.size := Nat.le_trans hs0 hb.size
  clear hb
  have HP1 := Lib.hid hn
  clear hn
  have HP2 := Lib.hid hn'
  clear hn'
  go_wp2_with fail
  refine calls_name fun WB hW => ?_
  have hs_WB : wb.heap.size ≤ WB.heap.size := by rw [← hW]; (first | omega | (simp; done) | (simp; omega))
  have HK_WB := Lib.hid (show Kp N wb WB by rw [← hW]; exact KpA)
  have k_P_0 : WB.cell? ⟨wb.heap.size, 0, none⟩ = some (.bool (decide ((p).num < 0))) := by rw [← hW]; (first | (go_simp; done) | (simp; done) | (simp [go_sem]; done) | (simp [go_sem]; done))
  have k_P_1 : WB.cell? ⟨wb.heap.size, 1, none⟩ = some (.slice rp (nlen (p).num.natAbs) cp) := by rw [← hW]; (first | (go_simp; done) | (simp; done) | (simp [go_sem]; done) | (simp [go_sem]; done))
  have k_P_2 : WB.cell? ⟨wb.heap.size, 2, none⟩ = some (.slice rp2 (nlen (p).den) cp2) := by rw [← hW]; (first | (go_simp; done) | (simp; done) | (simp [go_sem]; done) | (simp [go_sem]; done))
  have f_P : ∀ o, WB.frozen? ⟨wb.heap.size, o, none⟩ = false := by intro o; rw [← hW]; (first | (go_simp; done) | (simp; done) | (simp [go_sem]; done) | (simp [go_sem]; done))
  have HX_P := Lib.hid (show Bn WB (wb.heap.size) by rw [← hW]; exact KpA)
  replace HP1 := Lib.hid (HP1.out.keep HK_WB.out)
  replace HP2 := Lib.hid (HP2.out.keep HK_WB.out)
  replace HB := Lib.hid (show Below w.heap.size w WB by rw [← hW]; exact BlA)
  replace hN : N ≤ WB.heap.size := by rw [← hW]; (first | omega | (simp; done) | (simp; omega))
  replace hs0 : w.heap.size ≤ WB.heap.size := by rw [← hW]; (first | omega | (simp; done) | (simp; omega))
  have hl_P : wb.heap.size < WB.heap.size := by rw [← hW]; (first | omega | (simp; done) | (simp; omega))
  clear hW HK_WB
  refine (HT2.out _ HB.out hN).mono ?_
  rintro e wc ⟨rr, cr, rr2, cr2, rfl, hn, hn', hb⟩
  have hs_wc : WB.heap.size ≤ wc.heap.size := hb.size
  replace k_P_0 : wc.cell? ⟨wb.heap.size, 0, none⟩ = some (.bool (decide ((p).num < 0))) := (hb.cell (p := ⟨wb.heap.size, 0, none⟩) hl_P).trans k_P_0
  replace k_P_1 : wc.cell? ⟨wb.heap.size, 1, none⟩ = some (.slice rp (nlen (p).num.natAbs) cp) := (hb.cell (p := ⟨wb.heap.size, 1, none⟩) hl_P).trans k_P_1
  replace k_P_2 : wc.cell? ⟨wb.heap.size, 2, none⟩ = some (.slice rp2 (nlen (p).den) cp2) := (hb.cell (p := ⟨wb.heap.size, 2, none⟩) hl_P).trans k_P_2
  replace f_P : ∀ o, wc.frozen? ⟨wb.heap.size, o, none⟩ = false := fun o => (hb.frozen (p := ⟨wb.heap.size, o, none⟩) hl_P).trans (f_P o)
  replace HX_P := Lib.hid (HX_P.out.below hb)
  replace HP1 := Lib.hid (HP1.out.below hb)
  replace HP2 := Lib.hid (HP2.out.below hb)
  replace HB := Lib.hid (HB.out.trans (hb.mono hs0))
  replace hN : N ≤ wc.heap.size := Nat.le_trans hN hb.size
  replace hs0 : w.heap.size ≤ wc.heap.size := Nat.le_trans hs0 hb.size
  replace hl_P : wb.heap.size < wc.heap.size := Nat.lt_of_lt_of_le hl_P hb.size
  clear hb
  have HR1 := Lib.hid hn
  clear hn
  have HR2 := Lib.hid hn'
  clear hn'
  go_wp2_with fail
  refine calls_name fun WC hW => ?_
  have HL_WC := Lib.hid (show Below wc.heap.size wc WC by rw [← hW]; exact BlA)
  have hs_WC : wc.heap.size ≤ WC.heap.size := by rw [← hW]; (first | omega | (simp; done) | (simp; omega))
  have hd_P_Q : wb.heap.size < wc.heap.size := by omega
  have HK_WC := Lib.hid (show Kp N wc WC by rw [← hW]; exact KpA)
  replace k_P_0 : WC.cell? ⟨wb.heap.size, 0, none⟩ = some (.bool (decide ((p).num < 0))) := (HL_WC.out.cell (p := ⟨wb.heap.size, 0, none⟩) hl_P).trans k_P_0
  replace k_P_1 : WC.cell? ⟨wb.heap.size, 1, none⟩ = some (.slice rp (nlen (p).num.natAbs) cp) := (HL_WC.out.cell (p := ⟨wb.heap.size, 1, none⟩) hl_P).trans k_P_1
  replace k_P_2 : WC.cell? ⟨wb.heap.size, 2, none⟩ = some (.slice rp2 (nlen (p).den) cp2) := (HL_WC.out.cell (p := ⟨wb.heap.size, 2, none⟩) hl_P).trans k_P_2
  replace f_P : ∀ o, WC.frozen? ⟨wb.heap.size, o, none⟩ = false := fun o => (HL_WC.out.frozen (p := ⟨wb.heap.size, o, none⟩) hl_P).trans (f_P o)
  replace HX_P := Lib.hid (show Bn WC (wb.heap.size) by rw [← hW]; exact KpA)
  have k_Q_0 : WC.cell? ⟨wc.heap.size, 0, none⟩ = some (.bool (decide ((p).num < 0))) := by rw [← hW]; (first | (go_simp; done) | (simp; done) | (simp [go_sem]; done) | (simp [go_sem, k_P_0, k_P_1, k_P_2, f_P, hl_P]; done))
  have k_Q_1 : WC.cell? ⟨wc.heap.size, 1, none⟩ = some (.slice rr (nlen (p).num.natAbs) cr) := by rw [← hW]; (first | (go_simp; done) | (simp; done) | (simp [go_sem]; done) | (simp [go_sem, k_P_0, k_P_1, k_P_2, f_P, hl_P]; done))
  have k_Q_2 : WC.cell? ⟨wc.heap.size, 2, none⟩ = some (.slice rr2 (nlen (p).den) cr2) := by rw [← hW]; (first | (go_simp; done) | (simp; done) | (simp [go_sem]; done) | (simp [go_sem, k_P_0, k_P_1, k_P_2, f_P, hl_P]; done))
  have f_Q : ∀ o, WC.frozen? ⟨wc.heap.size, o, none⟩ = false := by intro o; rw [← hW]; (first | (go_simp; done) | (simp; done) | (simp [go_sem]; done) | (simp [go_sem, k_P_0, k_P_1, k_P_2, f_P, hl_P]; done))
  have HX_Q := Lib.hid (show Bn WC (wc.heap.size) by rw [← hW]; exact KpA)
  replace HP1 := Lib.hid (HP1.out.keep HK_WC.out)
  replace HP2 := Lib.hid (HP2.out.keep HK_WC.out)
  replace HR1 := Lib.hid (HR1.out.keep HK_WC.out)
  replace HR2 := Lib.hid (HR2.out.keep HK_WC.out)
  replace HB := Lib.hid (show Below w.heap.size w WC by rw [← hW]; exact BlA)
  replace hN : N ≤ WC.heap.size := by rw [← hW]; (first | omega | (simp; done) | (simp; omega))
  replace hs0 : w.heap.size ≤ WC.heap.size := by rw [← hW]; (first | omega | (simp; done) | (simp; omega))
  replace hl_P : wb.heap.size < WC.heap.size := by rw [← hW]; (first | omega | (simp; done) | (simp; omega))
  have hl_Q : wc.heap.size < WC.heap.size := by rw [← hW]; (first | omega | (simp; done) | (simp; omega))
  clear HL_WC
  clear hW HK_WC
  refine (same31_any (N := N) _ _ _ _ _ _ p.num.natAbs _ p.den _ _ _ _ _ HP1.out HP2.out HR1.out HR2.out).mono ?_
  rintro e wd ⟨rfl, hb⟩
  have hs_wd : WC.heap.size ≤ wd.heap.size := hb.size
  replace k_P_0 : wd.cell? ⟨wb.heap.size, 0, none⟩ = some (.bool (decide ((p).num < 0))) := (hb.cell (p := ⟨wb.heap.size, 0, none⟩) hl_P).trans k_P_0
  replace k_P_1 : wd.cell? ⟨wb.heap.size, 1, none⟩ = some (.slice rp (nlen (p).num.natAbs) cp) := (hb.cell (p := ⟨wb.heap.size, 1, none⟩) hl_P).trans k_P_1
  replace k_P_2 : wd.cell? ⟨wb.heap.size, 2, none⟩ = some (.slice rp2 (nlen (p).den) cp2) := (hb.cell (p := ⟨wb.heap.size, 2, none⟩) hl_P).trans k_P_2
  replace f_P : ∀ o, wd.frozen? ⟨wb.heap.size, o, none⟩ = false := fun o => (hb.frozen (p := ⟨wb.heap.size, o, none⟩) hl_P).trans (f_P o)
  replace HX_P := Lib.hid (HX_P.out.below hb)
  replace k_Q_0 : wd.cell? ⟨wc.heap.size, 0, none⟩ = some (.bool (decide ((p).num < 0))) := (hb.cell (p := ⟨wc.heap.size, 0, none⟩) hl_Q).trans k_Q_0
  replace k_Q_1 : wd.cell? ⟨wc.heap.size, 1, none⟩ = some (.slice rr (nlen (p).num.natAbs) cr) := (hb.cell (p := ⟨wc.heap.size, 1, none⟩) hl_Q).trans k_Q_1
  replace k_Q_2 : wd.cell? ⟨wc.heap.size, 2, none⟩ = some (.slice rr2 (nlen (p).den) cr2) := (hb.cell (p := ⟨wc.heap.size, 2, none⟩) hl_Q).trans k_Q_2
  replace f_Q : ∀ o, wd.frozen? ⟨wc.heap.size, o, none⟩ = false := fun o => (hb.frozen (p := ⟨wc.heap.size, o, none⟩) hl_Q).trans (f_Q o)
  replace HX_Q := Lib.hid (HX_Q.out.below hb)
  replace HP1 := Lib.hid (HP1.out.below hb)
  replace HP2 := Lib.hid (HP2.out.below hb)
  replace HR1 := Lib.hid (HR1.out.below hb)
  replace HR2 := Lib.hid (HR2.out.below hb)
  replace HB := Lib.hid (HB.out.trans (hb.mono hs0))
  replace hN : N ≤ wd.heap.size := Nat.le_trans hN hb.size
  replace hs0 : w.heap.size ≤ wd.heap.size := Nat.le_trans hs0 hb.size
  replace hl_P : wb.heap.size < wd.heap.size := Nat.lt_of_lt_of_le hl_P hb.size
  replace hl_Q : wc.heap.size < wd.heap.size := Nat.lt_of_lt_of_le hl_Q hb.size
  clear hb
  go_wp2_with fail
  go_ret
  exact ⟨rfl, HB.out⟩
set_option maxHeartbeats 1000000 in
theorem tests_heavy {N : Nat} (ax a : Option Addr) (m n cx ca : Nat) (q : Nat → Rat) (ln ld : Nat → Nat) (w : World) (_hN : N ≤ w.heap.size) (h : Ru N w a n ca q ln ld) (h20 : n ≤ 20) (hh : ¬ (n ≤ 8 ∧ ∀ j, j < n → ln j ≤ 2 ∧ ld j ≤ 2)) :
  Calls Try.prog 3 #[.slice ax m cx, .slice a n ca] w fun e w' => e = .returned (.bool true) ∧ Below w.heap.size w w' := by
 have HU := Lib.hid h
 have HH := Lib.hid hh
 have bc := h.1
 have bm := h.2.1
 unfold maxLen at bm
 clear h hh
 go_enter Try.func3, Try.ntmps3
 go_wp2_with fail
 refine (heavy_any (N := N) _ _ _ q ln ld _ HU.out).mono ?_
 rintro e w' ⟨b, rfl, rfl, hv⟩
 cases b
 case true =>
  go_wp2_with fail
  go_ret
  exact ⟨rfl, Below.refl _ _⟩
 case false => exact absurd (hv rfl h20) HH.out
set_option maxHeartbeats 4000000 in
theorem tests_any {N : Nat} (ax a : Option Addr) (m n cx ca : Nat) (q : Nat → Rat) (ln ld : Nat → Nat) (w : World) (hN : N ≤ w.heap.size) (h : Ru N w a n ca q ln ld) (x : Nat → Bool) (hx : Sl w ax m cx (fun i => .bool (x i))) :
  Calls Try.prog 3 #[.slice ax m cx, .slice a n ca] w fun e w' => e = .returned (.bool true) ∧ Below w.heap.size w w' := by
 have hmm := Nat.le_trans hx.1 hx.2.1
 by_cases h20m : m ≤ 20
 ·by_cases h20 : n ≤ 20
  ·by_cases hh : n ≤ 8 ∧ ∀ j, j < n → ln j ≤ 2 ∧ ld j ≤ 2
   ·have HR : Rs N w a n ca q 2 := h.rs 2 (by omega) hh.2
    by_cases hc : chkF q n = 0
    ·by_cases hnm : n = m
     ·subst hnm
      refine tests_walk (N := N) ax a n n cx ca q ln ld w hN h (upQ (nlQ q n) (n * n / 4 + 1) (erN x n)) 0 ?_ ?_
      ·intro w2 hb2 hN2
       exact tst_ok (N := N) ax a cx n ca x q 2 w2 hN2 h20 (hx.below hb2) (HR.below hb2) (by omega) hc _ rfl
      ·intro w2 hb2 hN2
       exact xtst_ok (N := N) ax a cx n ca x q 2 w2 hN2 h20 (hx.below hb2) (HR.below hb2) (by omega) hc _ rfl
     ·refine tests_walk (N := N) ax a m n cx ca q ln ld w hN h 0 1 ?_ ?_
      ·intro w2 hb2 hN2
       exact tst_len (N := N) ax a m cx n ca x q 2 w2 hN2 h20m (hx.below hb2) (HR.below hb2) (by omega) hc hnm 0 rfl
      ·intro w2 hb2 hN2
       exact xtst_len (N := N) ax a m cx n ca x q 2 w2 hN2 h20m (hx.below hb2) (HR.below hb2) (by omega) hc hnm 0 rfl
    ·refine tests_walk (N := N) ax a m n cx ca q ln ld w hN h 0 (chkF q n) ?_ ?_
     ·intro w2 hb2 hN2
      exact tst_null (N := N) ax a m cx n ca x w2 hN2 h20m (hx.below hb2) (chkF q n) hc (fun w3 hb3 => null_bad (N := N) a n ca q 2 w3 (Nat.le_trans hN2 hb3.size) ((HR.below hb2).below hb3) (by omega) _ rfl hc) 0 rfl
     ·intro w2 hb2 hN2
      exact xtst_null (N := N) ax a m cx n ca x w2 hN2 h20m (hx.below hb2) (chkF q n) hc (fun w3 hb3 => xnull_bad (N := N) a n ca q 2 w3 (Nat.le_trans hN2 hb3.size) ((HR.below hb2).below hb3) (by omega) _ rfl hc) 0 rfl
   ·exact tests_heavy (N := N) ax a m n cx ca q ln ld w hN h h20 hh
  ·refine tests_walk (N := N) ax a m n cx ca q ln ld w hN h 0 5 ?_ ?_
   ·intro w2 hb2 hN2
    exact tst_null (N := N) ax a m cx n ca x w2 hN2 h20m (hx.below hb2) 5 (by decide) (fun w3 _ => null_long a n ca w3 h.1 h.2.1 (by omega)) 0 rfl
   ·intro w2 hb2 hN2
    exact xtst_null (N := N) ax a m cx n ca x w2 hN2 h20m (hx.below hb2) 5 (by decide) (fun w3 _ => xnull_long a n ca w3 h.1 h.2.1 (by omega)) 0 rfl
 ·refine tests_walk (N := N) ax a m n cx ca q ln ld w hN h 0 5 ?_ ?_
  ·intro w2 _ hN2
   exact tst_gut (N := N) ax a m cx n ca w2 hN2 (by omega) hmm 0 rfl
  ·intro w2 _ hN2
   exact xtst_gut (N := N) ax a m cx n ca w2 hN2 (by omega) hmm 0 rfl
end Go.Proofs.Ytjobopafcgnljaa
