import Derived.Test.YtjobopafcgnljaaGreatAl
import Derived.Test.YtjobopafcgnljaaGreatFtP
namespace Go.Proofs.YtjobopafcgnljaaGreat
open Go.RowKit
set_option maxHeartbeats 2000000 in
theorem fwhole_any {N : Nat} (n : Int) (w : World) (hN : N ≤ w.heap.size) (n1 : -9223372036854775808 ≤ n) (n2 : n ≤ 9223372036854775807) (p : Rat) (hp : (n : Rat) / ((1 : Int) : Rat) = p) :
  Calls Tryz.prog 8 #[.int .i64 n] w (RatPost N w p) := by
 have HP := Lib.hid ((mk_div n 1).trans hp)
 clear hp
 have hN0 := hN
 have HB := Lib.hid (Below.refl w.heap.size w)
 go_enter Tryz.func8, Tryz.ntmps8
 go_wp2_with fail
 refine calls_name fun W0 hW => ?_
 have hs_W0 : w.heap.size ≤ W0.heap.size := by rw [← hW]; exact OmT
 have k_R_0 : W0.cell? ⟨w.heap.size, 0, none⟩ = some (.bool false) := by rw [← hW]; exact CeA
 have k_R_1 : W0.cell? ⟨w.heap.size, 1, none⟩ = some (.slice none 0 0) := by rw [← hW]; exact CeA
 have k_R_2 : W0.cell? ⟨w.heap.size, 2, none⟩ = some (.slice none 0 0) := by rw [← hW]; exact CeA
 have f_R : ∀ o, W0.frozen? ⟨w.heap.size, o, none⟩ = false := by intro o; rw [← hW]; exact CeA
 have HX_R := Lib.hid (show Bn W0 (w.heap.size) by rw [← hW]; exact KpA)
 replace HB := Lib.hid (show Below w.heap.size w W0 by rw [← hW]; exact BlA)
 replace hN : N ≤ W0.heap.size := by rw [← hW]; exact OmT
 have hs0 : w.heap.size ≤ W0.heap.size := by rw [← hW]; exact OmT
 have hl_R : w.heap.size < W0.heap.size := by rw [← hW]; exact OmT
 clear hW
 refine (rof_any (N := N) n 1 _ hN n1 n2 (by omega) (by omega) p HP.out).mono ?_
 rintro e wa ⟨rx, cx, rx2, cx2, rfl, hn, hn', hb⟩
 have hs_wa : W0.heap.size ≤ wa.heap.size := hb.size
 replace k_R_0 : wa.cell? ⟨w.heap.size, 0, none⟩ = some (.bool false) := (hb.cell (p := ⟨w.heap.size, 0, none⟩) hl_R).trans k_R_0
 replace k_R_1 : wa.cell? ⟨w.heap.size, 1, none⟩ = some (.slice none 0 0) := (hb.cell (p := ⟨w.heap.size, 1, none⟩) hl_R).trans k_R_1
 replace k_R_2 : wa.cell? ⟨w.heap.size, 2, none⟩ = some (.slice none 0 0) := (hb.cell (p := ⟨w.heap.size, 2, none⟩) hl_R).trans k_R_2
 replace f_R : ∀ o, wa.frozen? ⟨w.heap.size, o, none⟩ = false := fun o => (hb.frozen (p := ⟨w.heap.size, o, none⟩) hl_R).trans (f_R o)
 replace HX_R := Lib.hid (HX_R.out.below hb)
 replace HB := Lib.hid (HB.out.trans (hb.mono hs0))
 replace hN : N ≤ wa.heap.size := Nat.le_trans hN hb.size
 replace hs0 : w.heap.size ≤ wa.heap.size := Nat.le_trans hs0 hb.size
 replace hl_R : w.heap.size < wa.heap.size := Nat.lt_of_lt_of_le hl_R hb.size
 clear hb
 have HX1 := Lib.hid hn
 clear hn
 have HX2 := Lib.hid hn'
 clear hn'
 go_wp2_with fail
 refine bodyPost_ret (v := .agg #[.bool (decide ((p).num < 0)), .slice rx (nlen (p).num.natAbs) cx, .slice rx2 (nlen (p).den) cx2]) (by simp [results, Tryz.results8, go_sem, k_R_0, k_R_1, k_R_2, hl_R]) rfl ⟨_, _, _, _, rfl, HX1.out.keep ?_, HX2.out.keep ?_, ?_⟩
 all_goals exact KBA
set_option maxHeartbeats 1000000 in
theorem fcheck_long (a : Option Addr) (n cap : Nat) (w : World) (_bc : n ≤ cap) (_bm : cap ≤ maxLen) (hn : 20 < n) :
  Calls Tryz.prog 22 #[.slice a n cap] w fun e w' => e = .returned (.int .i64 5) ∧ Below w.heap.size w w' := by
 go_enter Tryz.func22, Tryz.ntmps22
 go_wp2_with fail
 go_ret
 exact ⟨rfl, Below.refl _ _⟩
theorem cmp_gtF (p q : Rat) (v : Bool) (h : decide (q < p) = v) : decide (0 < cmpQ p q) = v := by
 rw [← h]
 unfold cmpQ
 by_cases h1 : p < q
 ·rw [if_pos h1, decide_eq_false (show ¬ q < p by grind)]; rfl
 ·rw [if_neg h1]
  by_cases h2 : q < p
  ·rw [if_pos h2, decide_eq_true h2]; rfl
  ·rw [if_neg h2, decide_eq_false h2]; rfl
set_option maxHeartbeats 4000000 in
theorem fcheck_any {N : Nat} (a : Option Addr) (n cap : Nat) (q : Nat → Rat) (L : Nat) (w : World) (hN : N ≤ w.heap.size) (h : Rs N w a n cap q L) (hL : L ≤ 2097152) (c : Int) (hc : chkF q n = c) :
  Calls Tryz.prog 22 #[.slice a n cap] w fun e w' => e = .returned (.int .i64 c) ∧ Below w.heap.size w w' := by
 rcases Nat.lt_or_ge 20 n with h60 | h60
 ·rw [show c = 5 by rw [← hc]; unfold chkF; rw [if_pos h60]]
  exact fcheck_long a n cap w h.1 h.2.1 h60
 unfold chkF at hc
 rw [if_neg (by omega)] at hc
 have HCC := Lib.hid hc
 clear hc
 have HA := Lib.hid h
 have HAw := Lib.hid h
 have bc := h.1
 have bm := h.2.1
 unfold maxLen at bm
 clear h
 have hN0 := hN
 obtain ⟨p1, hp1⟩ : ∃ p : Rat, (((1 : Int) : Rat)) / ((1 : Int) : Rat) = p := ⟨_, rfl⟩
 have hp2 : p1 = 1 := by rw [← hp1]; decide +kernel
 have HP1 := Lib.hid hp1
 have HZ1 := Lib.hid (show rsz p1 ≤ 1 by rw [hp2]; exact rsz_one)
 have HE1 := Lib.hid hp2
 clear hp1 hp2
 have HB := Lib.hid (Below.refl w.heap.size w)
 go_enter Tryz.func22, Tryz.ntmps22
 go_wp2_with fail
 refine calls_name fun W0 hW => ?_
 have hs_W0 : w.heap.size ≤ W0.heap.size := by rw [← hW]; exact OmT
 have HL_W0 := Lib.hid (show Below w.heap.size w W0 by rw [← hW]; exact BlA)
 replace HB := Lib.hid (show Below w.heap.size w W0 by rw [← hW]; exact BlA)
 replace hN : N ≤ W0.heap.size := by rw [← hW]; exact OmT
 have hs0 : w.heap.size ≤ W0.heap.size := by rw [← hW]; exact OmT
 replace HA := Lib.hid (HA.out.below HL_W0.out)
 clear HL_W0
 clear hW
 refine (fwhole_any (N := N) 1 _ hN (by omega) (by omega) p1 HP1.out).mono ?_
 rintro e wa ⟨ro, co, ro2, co2, rfl, hn, hn', hb⟩
 have hs_wa : W0.heap.size ≤ wa.heap.size := hb.size
 replace HB := Lib.hid (HB.out.trans (hb.mono hs0))
 replace hN : N ≤ wa.heap.size := Nat.le_trans hN hb.size
 replace hs0 : w.heap.size ≤ wa.heap.size := Nat.le_trans hs0 hb.size
 replace HA := Lib.hid (HA.out.below hb)
 clear hb
 have HO1 := Lib.hid hn
 clear hn
 have HO2 := Lib.hid hn'
 clear hn'
 go_wp2_with fail
 go_loopw [12] (fun i wr => ∃ k : Nat, k ≤ n ∧ i = .int .i64 k ∧ Hid (∀ j, j < k → prb (q j) = true) ∧ Below w.heap.size w wr ∧ Box3 wr wa.heap.size (.bool (decide ((p1).num < 0))) (.slice ro (nlen (p1).num.natAbs) co) (.slice ro2 (nlen (p1).den) co2) ∧ Nt N wr ro (nlen p1.num.natAbs) co p1.num.natAbs ∧ Nt N wr ro2 (nlen p1.den) co2 p1.den) (fun i _ => n - (intOf i).toNat)
 case atStart =>
  refine ⟨0, Nat.zero_le _, rfl, (fun j hj => by omega), ?_, ⟨by first | omega | (simp; done) | (simp; omega), by exact KpA, fun o => by first | (go_simp; done) | (simp; done) | (simp [go_sem]; done) | (simp [go_sem]; done), by first | with_reducible assumption | (go_simp; done) | (simp; done) | (simp [go_sem]; done) | (simp [go_sem]; done), by first | with_reducible assumption | (go_simp; done) | (simp; done) | (simp [go_sem]; done) | (simp [go_sem]; done), by first | with_reducible assumption | (go_simp; done) | (simp; done) | (simp [go_sem]; done) | (simp [go_sem]; done)⟩, HO1.out.keep ?_, HO2.out.keep ?_⟩
  all_goals exact KBA
 case round =>
  obtain ⟨k, hk, rfl, hin, hbel, hbx, ho1, ho2⟩ := hrel
  have hsz : w.heap.size ≤ wr.heap.size := hbel.size
  have HA2 := Lib.hid (HAw.out.below hbel)
  clear HO1 HO2
  have HO1 := Lib.hid ho1
  have HO2 := Lib.hid ho2
  clear ho1 ho2 HB hs0 hN
  have HB := Lib.hid hbel
  have hs0 := hsz
  have hN : N ≤ wr.heap.size := by omega
  clear hbel
  obtain ⟨hl_O, bn_O, f_O, k_O_0, k_O_1, k_O_2⟩ := hbx
  have HX_O := Lib.hid bn_O
  clear bn_O
  by_cases hkn : k < n
  ·obtain ⟨b, off, rfl, hc⟩ := HA2.out.2.2 (by omega)
   obtain ⟨sk, ra, rn, rc, da, dn, dc, g0, g1, g2, hrt⟩ := hc k hkn
   have HR := Lib.hid hrt
   clear hc hrt HA2
   obtain ⟨σ, hσ⟩ : ∃ σ, (q k).num.sign = σ := ⟨_, rfl⟩
   have HSG := Lib.hid hσ
   obtain ⟨κ, hκ⟩ : ∃ κ, cmpQ (q k) p1 = κ := ⟨_, rfl⟩
   have HK := Lib.hid hκ
   by_cases h0 : q k < 0
   ·have d0 : decide (σ < 0) = true := by rw [← hσ]; exact sgn_lt2 _ h0
    have ec : c = 3 := by rw [← HCC.out, if_neg (fun hh => by have := hh k hkn; unfold prb at this; rw [decide_eq_true_eq] at this; grind)]
    clear hσ hκ h0
    go_wp2_with fail
    refine calls_name fun W1 hW => ?_
    have HL_W1 := Lib.hid (show Below wr.heap.size wr W1 by rw [← hW]; exact BlA)
    have hs_W1 : wr.heap.size ≤ W1.heap.size := by rw [← hW]; exact OmT
    have hd_O_P : wa.heap.size < wr.heap.size := by omega
    have HK_W1 := Lib.hid (show Kp N wr W1 by rw [← hW]; exact KpA)
    replace k_O_0 : W1.cell? ⟨wa.heap.size, 0, none⟩ = some (.bool (decide ((p1).num < 0))) := (HL_W1.out.cell (p := ⟨wa.heap.size, 0, none⟩) hl_O).trans k_O_0
    replace k_O_1 : W1.cell? ⟨wa.heap.size, 1, none⟩ = some (.slice ro (nlen (p1).num.natAbs) co) := (HL_W1.out.cell (p := ⟨wa.heap.size, 1, none⟩) hl_O).trans k_O_1
    replace k_O_2 : W1.cell? ⟨wa.heap.size, 2, none⟩ = some (.slice ro2 (nlen (p1).den) co2) := (HL_W1.out.cell (p := ⟨wa.heap.size, 2, none⟩) hl_O).trans k_O_2
    replace f_O : ∀ o, W1.frozen? ⟨wa.heap.size, o, none⟩ = false := fun o => (HL_W1.out.frozen (p := ⟨wa.heap.size, o, none⟩) hl_O).trans (f_O o)
    replace HX_O := Lib.hid (show Bn W1 (wa.heap.size) by rw [← hW]; exact KpA)
    have k_P_0 : W1.cell? ⟨wr.heap.size, 0, none⟩ = some (.bool sk) := by rw [← hW]; (first | (go_simp; done) | (simp; done) | (simp [go_sem]; done) | (simp [go_sem, k_O_0, k_O_1, k_O_2, f_O, hl_O]; done))
    have k_P_1 : W1.cell? ⟨wr.heap.size, 1, none⟩ = some (.slice ra rn rc) := by rw [← hW]; (first | (go_simp; done) | (simp; done) | (simp [go_sem]; done) | (simp [go_sem, k_O_0, k_O_1, k_O_2, f_O, hl_O]; done))
    have k_P_2 : W1.cell? ⟨wr.heap.size, 2, none⟩ = some (.slice da dn dc) := by rw [← hW]; (first | (go_simp; done) | (simp; done) | (simp [go_sem]; done) | (simp [go_sem, k_O_0, k_O_1, k_O_2, f_O, hl_O]; done))
    have f_P : ∀ o, W1.frozen? ⟨wr.heap.size, o, none⟩ = false := by intro o; rw [← hW]; (first | (go_simp; done) | (simp; done) | (simp [go_sem]; done) | (simp [go_sem, k_O_0, k_O_1, k_O_2, f_O, hl_O]; done))
    have HX_P := Lib.hid (show Bn W1 (wr.heap.size) by rw [← hW]; exact KpA)
    replace HR := Lib.hid (HR.out.keep HK_W1.out)
    replace HO1 := Lib.hid (HO1.out.keep HK_W1.out)
    replace HO2 := Lib.hid (HO2.out.keep HK_W1.out)
    replace HB := Lib.hid (show Below w.heap.size w W1 by rw [← hW]; exact BlA)
    replace hN : N ≤ W1.heap.size := by rw [← hW]; exact OmT
    replace hs0 : w.heap.size ≤ W1.heap.size := by rw [← hW]; exact OmT
    replace hl_O : wa.heap.size < W1.heap.size := by rw [← hW]; exact OmT
    have hl_P : wr.heap.size < W1.heap.size := by rw [← hW]; exact OmT
    clear HL_W1
    clear hW HK_W1
    refine (rsign_any (N := N) _ _ _ _ _ _ _ L (q k) _ hN HR.out).mono ?_
    rw [HSG.out]
    rintro e wb ⟨rfl, hb⟩
    have hs_wb : W1.heap.size ≤ wb.heap.size := hb.size
    replace k_O_0 : wb.cell? ⟨wa.heap.size, 0, none⟩ = some (.bool (decide ((p1).num < 0))) := (hb.cell (p := ⟨wa.heap.size, 0, none⟩) hl_O).trans k_O_0
    replace k_O_1 : wb.cell? ⟨wa.heap.size, 1, none⟩ = some (.slice ro (nlen (p1).num.natAbs) co) := (hb.cell (p := ⟨wa.heap.size, 1, none⟩) hl_O).trans k_O_1
    replace k_O_2 : wb.cell? ⟨wa.heap.size, 2, none⟩ = some (.slice ro2 (nlen (p1).den) co2) := (hb.cell (p := ⟨wa.heap.size, 2, none⟩) hl_O).trans k_O_2
    replace f_O : ∀ o, wb.frozen? ⟨wa.heap.size, o, none⟩ = false := fun o => (hb.frozen (p := ⟨wa.heap.size, o, none⟩) hl_O).trans (f_O o)
    replace HX_O := Lib.hid (HX_O.out.below hb)
    replace k_P_0 : wb.cell? ⟨wr.heap.size, 0, none⟩ = some (.bool sk) := (hb.cell (p := ⟨wr.heap.size, 0, none⟩) hl_P).trans k_P_0
    replace k_P_1 : wb.cell? ⟨wr.heap.size, 1, none⟩ = some (.slice ra rn rc) := (hb.cell (p := ⟨wr.heap.size, 1, none⟩) hl_P).trans k_P_1
    replace k_P_2 : wb.cell? ⟨wr.heap.size, 2, none⟩ = some (.slice da dn dc) := (hb.cell (p := ⟨wr.heap.size, 2, none⟩) hl_P).trans k_P_2
    replace f_P : ∀ o, wb.frozen? ⟨wr.heap.size, o, none⟩ = false := fun o => (hb.frozen (p := ⟨wr.heap.size, o, none⟩) hl_P).trans (f_P o)
    replace HX_P := Lib.hid (HX_P.out.below hb)
    replace HR := Lib.hid (HR.out.below hb)
    replace HO1 := Lib.hid (HO1.out.below hb)
    replace HO2 := Lib.hid (HO2.out.below hb)
    replace HB := Lib.hid (HB.out.trans (hb.mono hs0))
    replace hN : N ≤ wb.heap.size := Nat.le_trans hN hb.size
    replace hs0 : w.heap.size ≤ wb.heap.size := Nat.le_trans hs0 hb.size
    replace hl_O : wa.heap.size < wb.heap.size := Nat.lt_of_lt_of_le hl_O hb.size
    replace hl_P : wr.heap.size < wb.heap.size := Nat.lt_of_lt_of_le hl_P hb.size
    clear hb
    go_wp2_with fail
    go_ret
    exact ⟨by rw [ec]; rfl, HB.out⟩
   ·have h1 : 0 ≤ q k := by grind
    by_cases h2 : 1 < q k
    ·have d1 : decide (0 < κ) = true := by rw [← hκ, HE1.out]; exact cmp_gtF _ _ _ (decide_eq_true h2)
     have d0 : decide (σ < 0) = false := by rw [← hσ]; exact sgn_ge2 _ h1
     have ec : c = 3 := by rw [← HCC.out, if_neg (fun hh => by have := hh k hkn; unfold prb at this; rw [decide_eq_true_eq] at this; grind)]
     clear hσ hκ h0 h1 h2
     go_wp2_with fail
     refine calls_name fun W1 hW => ?_
     have HL_W1 := Lib.hid (show Below wr.heap.size wr W1 by rw [← hW]; exact BlA)
     have hs_W1 : wr.heap.size ≤ W1.heap.size := by rw [← hW]; exact OmT
     have hd_O_P : wa.heap.size < wr.heap.size := by omega
     have HK_W1 := Lib.hid (show Kp N wr W1 by rw [← hW]; exact KpA)
     replace k_O_0 : W1.cell? ⟨wa.heap.size, 0, none⟩ = some (.bool (decide ((p1).num < 0))) := (HL_W1.out.cell (p := ⟨wa.heap.size, 0, none⟩) hl_O).trans k_O_0
     replace k_O_1 : W1.cell? ⟨wa.heap.size, 1, none⟩ = some (.slice ro (nlen (p1).num.natAbs) co) := (HL_W1.out.cell (p := ⟨wa.heap.size, 1, none⟩) hl_O).trans k_O_1
     replace k_O_2 : W1.cell? ⟨wa.heap.size, 2, none⟩ = some (.slice ro2 (nlen (p1).den) co2) := (HL_W1.out.cell (p := ⟨wa.heap.size, 2, none⟩) hl_O).trans k_O_2
     replace f_O : ∀ o, W1.frozen? ⟨wa.heap.size, o, none⟩ = false := fun o => (HL_W1.out.frozen (p := ⟨wa.heap.size, o, none⟩) hl_O).trans (f_O o)
     replace HX_O := Lib.hid (show Bn W1 (wa.heap.size) by rw [← hW]; exact KpA)
     have k_P_0 : W1.cell? ⟨wr.heap.size, 0, none⟩ = some (.bool sk) := by rw [← hW]; (first | (go_simp; done) | (simp; done) | (simp [go_sem]; done) | (simp [go_sem, k_O_0, k_O_1, k_O_2, f_O, hl_O]; done))
     have k_P_1 : W1.cell? ⟨wr.heap.size, 1, none⟩ = some (.slice ra rn rc) := by rw [← hW]; (first | (go_simp; done) | (simp; done) | (simp [go_sem]; done) | (simp [go_sem, k_O_0, k_O_1, k_O_2, f_O, hl_O]; done))
     have k_P_2 : W1.cell? ⟨wr.heap.size, 2, none⟩ = some (.slice da dn dc) := by rw [← hW]; (first | (go_simp; done) | (simp; done) | (simp [go_sem]; done) | (simp [go_sem, k_O_0, k_O_1, k_O_2, f_O, hl_O]; done))
     have f_P : ∀ o, W1.frozen? ⟨wr.heap.size, o, none⟩ = false := by intro o; rw [← hW]; (first | (go_simp; done) | (simp; done) | (simp [go_sem]; done) | (simp [go_sem, k_O_0, k_O_1, k_O_2, f_O, hl_O]; done))
     have HX_P := Lib.hid (show Bn W1 (wr.heap.size) by rw [← hW]; exact KpA)
     replace HR := Lib.hid (HR.out.keep HK_W1.out)
     replace HO1 := Lib.hid (HO1.out.keep HK_W1.out)
     replace HO2 := Lib.hid (HO2.out.keep HK_W1.out)
     replace HB := Lib.hid (show Below w.heap.size w W1 by rw [← hW]; exact BlA)
     replace hN : N ≤ W1.heap.size := by rw [← hW]; exact OmT
     replace hs0 : w.heap.size ≤ W1.heap.size := by rw [← hW]; exact OmT
     replace hl_O : wa.heap.size < W1.heap.size := by rw [← hW]; exact OmT
     have hl_P : wr.heap.size < W1.heap.size := by rw [← hW]; exact OmT
     clear HL_W1
     clear hW HK_W1
     refine (rsign_any (N := N) _ _ _ _ _ _ _ L (q k) _ hN HR.out).mono ?_
     rw [HSG.out]
     rintro e wb ⟨rfl, hb⟩
     have hs_wb : W1.heap.size ≤ wb.heap.size := hb.size
     replace k_O_0 : wb.cell? ⟨wa.heap.size, 0, none⟩ = some (.bool (decide ((p1).num < 0))) := (hb.cell (p := ⟨wa.heap.size, 0, none⟩) hl_O).trans k_O_0
     replace k_O_1 : wb.cell? ⟨wa.heap.size, 1, none⟩ = some (.slice ro (nlen (p1).num.natAbs) co) := (hb.cell (p := ⟨wa.heap.size, 1, none⟩) hl_O).trans k_O_1
     replace k_O_2 : wb.cell? ⟨wa.heap.size, 2, none⟩ = some (.slice ro2 (nlen (p1).den) co2) := (hb.cell (p := ⟨wa.heap.size, 2, none⟩) hl_O).trans k_O_2
     replace f_O : ∀ o, wb.frozen? ⟨wa.heap.size, o, none⟩ = false := fun o => (hb.frozen (p := ⟨wa.heap.size, o, none⟩) hl_O).trans (f_O o)
     replace HX_O := Lib.hid (HX_O.out.below hb)
     replace k_P_0 : wb.cell? ⟨wr.heap.size, 0, none⟩ = some (.bool sk) := (hb.cell (p := ⟨wr.heap.size, 0, none⟩) hl_P).trans k_P_0
     replace k_P_1 : wb.cell? ⟨wr.heap.size, 1, none⟩ = some (.slice ra rn rc) := (hb.cell (p := ⟨wr.heap.size, 1, none⟩) hl_P).trans k_P_1
     replace k_P_2 : wb.cell? ⟨wr.heap.size, 2, none⟩ = some (.slice da dn dc) := (hb.cell (p := ⟨wr.heap.size, 2, none⟩) hl_P).trans k_P_2
     replace f_P : ∀ o, wb.frozen? ⟨wr.heap.size, o, none⟩ = false := fun o => (hb.frozen (p := ⟨wr.heap.size, o, none⟩) hl_P).trans (f_P o)
     replace HX_P := Lib.hid (HX_P.out.below hb)
     replace HR := Lib.hid (HR.out.below hb)
     replace HO1 := Lib.hid (HO1.out.below hb)
     replace HO2 := Lib.hid (HO2.out.below hb)
     replace HB := Lib.hid (HB.out.trans (hb.mono hs0))
     replace hN : N ≤ wb.heap.size := Nat.le_trans hN hb.size
     replace hs0 : w.heap.size ≤ wb.heap.size := Nat.le_trans hs0 hb.size
     replace hl_O : wa.heap.size < wb.heap.size := Nat.lt_of_lt_of_le hl_O hb.size
     replace hl_P : wr.heap.size < wb.heap.size := Nat.lt_of_lt_of_le hl_P hb.size
     clear hb
     go_wp2_with fail
     refine calls_name fun W2 hW => ?_
     have HL_W2 := Lib.hid (show Below wb.heap.size wb W2 by rw [← hW]; exact BlA)
     have hs_W2 : wb.heap.size ≤ W2.heap.size := by rw [← hW]; exact OmT
     have HK_W2 := Lib.hid (show Kp N wb W2 by rw [← hW]; exact KpA)
     replace k_O_0 : W2.cell? ⟨wa.heap.size, 0, none⟩ = some (.bool (decide ((p1).num < 0))) := (HL_W2.out.cell (p := ⟨wa.heap.size, 0, none⟩) hl_O).trans k_O_0
     replace k_O_1 : W2.cell? ⟨wa.heap.size, 1, none⟩ = some (.slice ro (nlen (p1).num.natAbs) co) := (HL_W2.out.cell (p := ⟨wa.heap.size, 1, none⟩) hl_O).trans k_O_1
     replace k_O_2 : W2.cell? ⟨wa.heap.size, 2, none⟩ = some (.slice ro2 (nlen (p1).den) co2) := (HL_W2.out.cell (p := ⟨wa.heap.size, 2, none⟩) hl_O).trans k_O_2
     replace f_O : ∀ o, W2.frozen? ⟨wa.heap.size, o, none⟩ = false := fun o => (HL_W2.out.frozen (p := ⟨wa.heap.size, o, none⟩) hl_O).trans (f_O o)
     replace HX_O := Lib.hid (show Bn W2 (wa.heap.size) by rw [← hW]; exact KpA)
     replace k_P_0 : W2.cell? ⟨wr.heap.size, 0, none⟩ = some (.bool sk) := (HL_W2.out.cell (p := ⟨wr.heap.size, 0, none⟩) hl_P).trans k_P_0
     replace k_P_1 : W2.cell? ⟨wr.heap.size, 1, none⟩ = some (.slice ra rn rc) := (HL_W2.out.cell (p := ⟨wr.heap.size, 1, none⟩) hl_P).trans k_P_1
     replace k_P_2 : W2.cell? ⟨wr.heap.size, 2, none⟩ = some (.slice da dn dc) := (HL_W2.out.cell (p := ⟨wr.heap.size, 2, none⟩) hl_P).trans k_P_2
     replace f_P : ∀ o, W2.frozen? ⟨wr.heap.size, o, none⟩ = false := fun o => (HL_W2.out.frozen (p := ⟨wr.heap.size, o, none⟩) hl_P).trans (f_P o)
     replace HX_P := Lib.hid (show Bn W2 (wr.heap.size) by rw [← hW]; exact KpA)
     replace HR := Lib.hid (HR.out.keep HK_W2.out)
     replace HO1 := Lib.hid (HO1.out.keep HK_W2.out)
     replace HO2 := Lib.hid (HO2.out.keep HK_W2.out)
     replace HB := Lib.hid (show Below w.heap.size w W2 by rw [← hW]; exact BlA)
     replace hN : N ≤ W2.heap.size := by rw [← hW]; exact OmT
     replace hs0 : w.heap.size ≤ W2.heap.size := by rw [← hW]; exact OmT
     replace hl_O : wa.heap.size < W2.heap.size := by rw [← hW]; exact OmT
     replace hl_P : wr.heap.size < W2.heap.size := by rw [← hW]; exact OmT
     clear HL_W2
     clear hW HK_W2
     refine (rcmp_any (N := N) _ _ _ _ _ _ _ _ _ _ _ _ _ _ L 1 (q k) p1 _ hN HR.out (Rt.of_norm HO1.out HO2.out 1 HZ1.out) (by omega) (by omega)).mono ?_
     rw [HK.out]
     rintro e wc ⟨rfl, hb⟩
     have hs_wc : W2.heap.size ≤ wc.heap.size := hb.size
     replace k_O_0 : wc.cell? ⟨wa.heap.size, 0, none⟩ = some (.bool (decide ((p1).num < 0))) := (hb.cell (p := ⟨wa.heap.size, 0, none⟩) hl_O).trans k_O_0
     replace k_O_1 : wc.cell? ⟨wa.heap.size, 1, none⟩ = some (.slice ro (nlen (p1).num.natAbs) co) := (hb.cell (p := ⟨wa.heap.size, 1, none⟩) hl_O).trans k_O_1
     replace k_O_2 : wc.cell? ⟨wa.heap.size, 2, none⟩ = some (.slice ro2 (nlen (p1).den) co2) := (hb.cell (p := ⟨wa.heap.size, 2, none⟩) hl_O).trans k_O_2
     replace f_O : ∀ o, wc.frozen? ⟨wa.heap.size, o, none⟩ = false := fun o => (hb.frozen (p := ⟨wa.heap.size, o, none⟩) hl_O).trans (f_O o)
     replace HX_O := Lib.hid (HX_O.out.below hb)
     replace k_P_0 : wc.cell? ⟨wr.heap.size, 0, none⟩ = some (.bool sk) := (hb.cell (p := ⟨wr.heap.size, 0, none⟩) hl_P).trans k_P_0
     replace k_P_1 : wc.cell? ⟨wr.heap.size, 1, none⟩ = some (.slice ra rn rc) := (hb.cell (p := ⟨wr.heap.size, 1, none⟩) hl_P).trans k_P_1
     replace k_P_2 : wc.cell? ⟨wr.heap.size, 2, none⟩ = some (.slice da dn dc) := (hb.cell (p := ⟨wr.heap.size, 2, none⟩) hl_P).trans k_P_2
     replace f_P : ∀ o, wc.frozen? ⟨wr.heap.size, o, none⟩ = false := fun o => (hb.frozen (p := ⟨wr.heap.size, o, none⟩) hl_P).trans (f_P o)
     replace HX_P := Lib.hid (HX_P.out.below hb)
     replace HR := Lib.hid (HR.out.below hb)
     replace HO1 := Lib.hid (HO1.out.below hb)
     replace HO2 := Lib.hid (HO2.out.below hb)
     replace HB := Lib.hid (HB.out.trans (hb.mono hs0))
     replace hN : N ≤ wc.heap.size := Nat.le_trans hN hb.size
     replace hs0 : w.heap.size ≤ wc.heap.size := Nat.le_trans hs0 hb.size
     replace hl_O : wa.heap.size < wc.heap.size := Nat.lt_of_lt_of_le hl_O hb.size
     replace hl_P : wr.heap.size < wc.heap.size := Nat.lt_of_lt_of_le hl_P hb.size
     clear hb
     go_wp2_with fail
     go_ret
     exact ⟨by rw [ec]; rfl, HB.out⟩
    ·have d1 : decide (0 < κ) = false := by rw [← hκ, HE1.out]; exact cmp_gtF _ _ _ (decide_eq_false h2)
     have d0 : decide (σ < 0) = false := by rw [← hσ]; exact sgn_ge2 _ h1
     have HPB := Lib.hid (show prb (q k) = true by unfold prb; exact decide_eq_true ⟨h1, by grind⟩)
     clear hσ hκ h0 h1 h2
     go_wp2_with fail
     refine calls_name fun W1 hW => ?_
     have HL_W1 := Lib.hid (show Below wr.heap.size wr W1 by rw [← hW]; exact BlA)
     have hs_W1 : wr.heap.size ≤ W1.heap.size := by rw [← hW]; exact OmT
     have hd_O_P : wa.heap.size < wr.heap.size := by omega
     have HK_W1 := Lib.hid (show Kp N wr W1 by rw [← hW]; exact KpA)
     replace k_O_0 : W1.cell? ⟨wa.heap.size, 0, none⟩ = some (.bool (decide ((p1).num < 0))) := (HL_W1.out.cell (p := ⟨wa.heap.size, 0, none⟩) hl_O).trans k_O_0
     replace k_O_1 : W1.cell? ⟨wa.heap.size, 1, none⟩ = some (.slice ro (nlen (p1).num.natAbs) co) := (HL_W1.out.cell (p := ⟨wa.heap.size, 1, none⟩) hl_O).trans k_O_1
     replace k_O_2 : W1.cell? ⟨wa.heap.size, 2, none⟩ = some (.slice ro2 (nlen (p1).den) co2) := (HL_W1.out.cell (p := ⟨wa.heap.size, 2, none⟩) hl_O).trans k_O_2
     replace f_O : ∀ o, W1.frozen? ⟨wa.heap.size, o, none⟩ = false := fun o => (HL_W1.out.frozen (p := ⟨wa.heap.size, o, none⟩) hl_O).trans (f_O o)
     replace HX_O := Lib.hid (show Bn W1 (wa.heap.size) by rw [← hW]; exact KpA)
     have k_P_0 : W1.cell? ⟨wr.heap.size, 0, none⟩ = some (.bool sk) := by rw [← hW]; (first | (go_simp; done) | (simp; done) | (simp [go_sem]; done) | (simp [go_sem, k_O_0, k_O_1, k_O_2, f_O, hl_O]; done))
     have k_P_1 : W1.cell? ⟨wr.heap.size, 1, none⟩ = some (.slice ra rn rc) := by rw [← hW]; (first | (go_simp; done) | (simp; done) | (simp [go_sem]; done) | (simp [go_sem, k_O_0, k_O_1, k_O_2, f_O, hl_O]; done))
     have k_P_2 : W1.cell? ⟨wr.heap.size, 2, none⟩ = some (.slice da dn dc) := by rw [← hW]; (first | (go_simp; done) | (simp; done) | (simp [go_sem]; done) | (simp [go_sem, k_O_0, k_O_1, k_O_2, f_O, hl_O]; done))
     have f_P : ∀ o, W1.frozen? ⟨wr.heap.size, o, none⟩ = false := by intro o; rw [← hW]; (first | (go_simp; done) | (simp; done) | (simp [go_sem]; done) | (simp [go_sem, k_O_0, k_O_1, k_O_2, f_O, hl_O]; done))
     have HX_P := Lib.hid (show Bn W1 (wr.heap.size) by rw [← hW]; exact KpA)
     replace HR := Lib.hid (HR.out.keep HK_W1.out)
     replace HO1 := Lib.hid (HO1.out.keep HK_W1.out)
     replace HO2 := Lib.hid (HO2.out.keep HK_W1.out)
     replace HB := Lib.hid (show Below w.heap.size w W1 by rw [← hW]; exact BlA)
     replace hN : N ≤ W1.heap.size := by rw [← hW]; exact OmT
     replace hs0 : w.heap.size ≤ W1.heap.size := by rw [← hW]; exact OmT
     replace hl_O : wa.heap.size < W1.heap.size := by rw [← hW]; exact OmT
     have hl_P : wr.heap.size < W1.heap.size := by rw [← hW]; exact OmT
     clear HL_W1
     clear hW HK_W1
     refine (rsign_any (N := N) _ _ _ _ _ _ _ L (q k) _ hN HR.out).mono ?_
     rw [HSG.out]
     rintro e wb ⟨rfl, hb⟩
     have hs_wb : W1.heap.size ≤ wb.heap.size := hb.size
     replace k_O_0 : wb.cell? ⟨wa.heap.size, 0, none⟩ = some (.bool (decide ((p1).num < 0))) := (hb.cell (p := ⟨wa.heap.size, 0, none⟩) hl_O).trans k_O_0
     replace k_O_1 : wb.cell? ⟨wa.heap.size, 1, none⟩ = some (.slice ro (nlen (p1).num.natAbs) co) := (hb.cell (p := ⟨wa.heap.size, 1, none⟩) hl_O).trans k_O_1
     replace k_O_2 : wb.cell? ⟨wa.heap.size, 2, none⟩ = some (.slice ro2 (nlen (p1).den) co2) := (hb.cell (p := ⟨wa.heap.size, 2, none⟩) hl_O).trans k_O_2
     replace f_O : ∀ o, wb.frozen? ⟨wa.heap.size, o, none⟩ = false := fun o => (hb.frozen (p := ⟨wa.heap.size, o, none⟩) hl_O).trans (f_O o)
     replace HX_O := Lib.hid (HX_O.out.below hb)
     replace k_P_0 : wb.cell? ⟨wr.heap.size, 0, none⟩ = some (.bool sk) := (hb.cell (p := ⟨wr.heap.size, 0, none⟩) hl_P).trans k_P_0
     replace k_P_1 : wb.cell? ⟨wr.heap.size, 1, none⟩ = some (.slice ra rn rc) := (hb.cell (p := ⟨wr.heap.size, 1, none⟩) hl_P).trans k_P_1
     replace k_P_2 : wb.cell? ⟨wr.heap.size, 2, none⟩ = some (.slice da dn dc) := (hb.cell (p := ⟨wr.heap.size, 2, none⟩) hl_P).trans k_P_2
     replace f_P : ∀ o, wb.frozen? ⟨wr.heap.size, o, none⟩ = false := fun o => (hb.frozen (p := ⟨wr.heap.size, o, none⟩) hl_P).trans (f_P o)
     replace HX_P := Lib.hid (HX_P.out.below hb)
     replace HR := Lib.hid (HR.out.below hb)
     replace HO1 := Lib.hid (HO1.out.below hb)
     replace HO2 := Lib.hid (HO2.out.below hb)
     replace HB := Lib.hid (HB.out.trans (hb.mono hs0))
     replace hN : N ≤ wb.heap.size := Nat.le_trans hN hb.size
     replace hs0 : w.heap.size ≤ wb.heap.size := Nat.le_trans hs0 hb.size
     replace hl_O : wa.heap.size < wb.heap.size := Nat.lt_of_lt_of_le hl_O hb.size
     replace hl_P : wr.heap.size < wb.heap.size := Nat.lt_of_lt_of_le hl_P hb.size
     clear hb
     go_wp2_with fail
     refine calls_name fun W2 hW => ?_
     have HL_W2 := Lib.hid (show Below wb.heap.size wb W2 by rw [← hW]; exact BlA)
     have hs_W2 : wb.heap.size ≤ W2.heap.size := by rw [← hW]; exact OmT
     have HK_W2 := Lib.hid (show Kp N wb W2 by rw [← hW]; exact KpA)
     replace k_O_0 : W2.cell? ⟨wa.heap.size, 0, none⟩ = some (.bool (decide ((p1).num < 0))) := (HL_W2.out.cell (p := ⟨wa.heap.size, 0, none⟩) hl_O).trans k_O_0
     replace k_O_1 : W2.cell? ⟨wa.heap.size, 1, none⟩ = some (.slice ro (nlen (p1).num.natAbs) co) := (HL_W2.out.cell (p := ⟨wa.heap.size, 1, none⟩) hl_O).trans k_O_1
     replace k_O_2 : W2.cell? ⟨wa.heap.size, 2, none⟩ = some (.slice ro2 (nlen (p1).den) co2) := (HL_W2.out.cell (p := ⟨wa.heap.size, 2, none⟩) hl_O).trans k_O_2
     replace f_O : ∀ o, W2.frozen? ⟨wa.heap.size, o, none⟩ = false := fun o => (HL_W2.out.frozen (p := ⟨wa.heap.size, o, none⟩) hl_O).trans (f_O o)
     replace HX_O := Lib.hid (show Bn W2 (wa.heap.size) by rw [← hW]; exact KpA)
     replace k_P_0 : W2.cell? ⟨wr.heap.size, 0, none⟩ = some (.bool sk) := (HL_W2.out.cell (p := ⟨wr.heap.size, 0, none⟩) hl_P).trans k_P_0
     replace k_P_1 : W2.cell? ⟨wr.heap.size, 1, none⟩ = some (.slice ra rn rc) := (HL_W2.out.cell (p := ⟨wr.heap.size, 1, none⟩) hl_P).trans k_P_1
     replace k_P_2 : W2.cell? ⟨wr.heap.size, 2, none⟩ = some (.slice da dn dc) := (HL_W2.out.cell (p := ⟨wr.heap.size, 2, none⟩) hl_P).trans k_P_2
     replace f_P : ∀ o, W2.frozen? ⟨wr.heap.size, o, none⟩ = false := fun o => (HL_W2.out.frozen (p := ⟨wr.heap.size, o, none⟩) hl_P).trans (f_P o)
     replace HX_P := Lib.hid (show Bn W2 (wr.heap.size) by rw [← hW]; exact KpA)
     replace HR := Lib.hid (HR.out.keep HK_W2.out)
     replace HO1 := Lib.hid (HO1.out.keep HK_W2.out)
     replace HO2 := Lib.hid (HO2.out.keep HK_W2.out)
     replace HB := Lib.hid (show Below w.heap.size w W2 by rw [← hW]; exact BlA)
     replace hN : N ≤ W2.heap.size := by rw [← hW]; exact OmT
     replace hs0 : w.heap.size ≤ W2.heap.size := by rw [← hW]; exact OmT
     replace hl_O : wa.heap.size < W2.heap.size := by rw [← hW]; exact OmT
     replace hl_P : wr.heap.size < W2.heap.size := by rw [← hW]; exact OmT
     clear HL_W2
     clear hW HK_W2
     refine (rcmp_any (N := N) _ _ _ _ _ _ _ _ _ _ _ _ _ _ L 1 (q k) p1 _ hN HR.out (Rt.of_norm HO1.out HO2.out 1 HZ1.out) (by omega) (by omega)).mono ?_
     rw [HK.out]
     rintro e wc ⟨rfl, hb⟩
     have hs_wc : W2.heap.size ≤ wc.heap.size := hb.size
     replace k_O_0 : wc.cell? ⟨wa.heap.size, 0, none⟩ = some (.bool (decide ((p1).num < 0))) := (hb.cell (p := ⟨wa.heap.size, 0, none⟩) hl_O).trans k_O_0
     replace k_O_1 : wc.cell? ⟨wa.heap.size, 1, none⟩ = some (.slice ro (nlen (p1).num.natAbs) co) := (hb.cell (p := ⟨wa.heap.size, 1, none⟩) hl_O).trans k_O_1
     replace k_O_2 : wc.cell? ⟨wa.heap.size, 2, none⟩ = some (.slice ro2 (nlen (p1).den) co2) := (hb.cell (p := ⟨wa.heap.size, 2, none⟩) hl_O).trans k_O_2
     replace f_O : ∀ o, wc.frozen? ⟨wa.heap.size, o, none⟩ = false := fun o => (hb.frozen (p := ⟨wa.heap.size, o, none⟩) hl_O).trans (f_O o)
     replace HX_O := Lib.hid (HX_O.out.below hb)
     replace k_P_0 : wc.cell? ⟨wr.heap.size, 0, none⟩ = some (.bool sk) := (hb.cell (p := ⟨wr.heap.size, 0, none⟩) hl_P).trans k_P_0
     replace k_P_1 : wc.cell? ⟨wr.heap.size, 1, none⟩ = some (.slice ra rn rc) := (hb.cell (p := ⟨wr.heap.size, 1, none⟩) hl_P).trans k_P_1
     replace k_P_2 : wc.cell? ⟨wr.heap.size, 2, none⟩ = some (.slice da dn dc) := (hb.cell (p := ⟨wr.heap.size, 2, none⟩) hl_P).trans k_P_2
     replace f_P : ∀ o, wc.frozen? ⟨wr.heap.size, o, none⟩ = false := fun o => (hb.frozen (p := ⟨wr.heap.size, o, none⟩) hl_P).trans (f_P o)
     replace HX_P := Lib.hid (HX_P.out.below hb)
     replace HR := Lib.hid (HR.out.below hb)
     replace HO1 := Lib.hid (HO1.out.below hb)
     replace HO2 := Lib.hid (HO2.out.below hb)
     replace HB := Lib.hid (HB.out.trans (hb.mono hs0))
     replace hN : N ≤ wc.heap.size := Nat.le_trans hN hb.size
     replace hs0 : w.heap.size ≤ wc.heap.size := Nat.le_trans hs0 hb.size
     replace hl_O : wa.heap.size < wc.heap.size := Nat.lt_of_lt_of_le hl_O hb.size
     replace hl_P : wr.heap.size < wc.heap.size := Nat.lt_of_lt_of_le hl_P hb.size
     clear hb
     go_wp2_with fail
     go_roundw
     case rel => exact ⟨k + 1, by omega, by go_num, all_succ hin.out HPB.out, HB.out, ⟨hl_O, HX_O.out, f_O, k_O_0, k_O_1, k_O_2⟩, HO1.out, HO2.out⟩
     case measure => simp [intOf]; omega
  ·obtain rfl : n = k := by omega
   go_wp2_with fail
   have ec : c = 0 := by rw [← HCC.out, if_pos hin.out]
   go_ret
   exact ⟨by rw [ec]; rfl, HB.out⟩
end Go.Proofs.YtjobopafcgnljaaGreat
