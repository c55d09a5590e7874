import Derived.Test.YtjobopafcgnljaaGreatAl
import Derived.Test.YtjobopafcgnljaaGreatPsB
import Derived.Test.YtjobopafcgnljaaGreatSmA
namespace Go.Proofs.YtjobopafcgnljaaGreat
open Go.RowKit
set_option maxRecDepth 20000 in
set_option maxHeartbeats 4000000 in
theorem persons_skip {N : Nat} (am ak : Option Addr) (n m cm ck : Nat) (D : MdD) (ks : Nat → Int) (q : Int) (w : World) (_hN : N ≤ w.heap.size) (h : Ms w am n cm D) (hk : Is w ak m ck ks) (hs : (8 < lftN ks m ∧ lftN ks m ≤ 20) ∨ 100 < m) :
  Calls Tryz.prog 3 #[.slice am n cm, .slice ak m ck, .int .i64 q] w fun e w' => e = .returned (.bool true) ∧ Below w.heap.size w w' := by
 have HA := Lib.hid h
 have HK := Lib.hid hk
 have kc := hk.1
 have km := hk.2.1
 unfold maxLen at km
 clear h hk
 go_enter Tryz.func3, Tryz.ntmps3
 go_wp2_with fail
 go_loop [7, 8] (fun nn i => ∃ k : Nat, k ≤ m ∧ i = .int .i64 k ∧ nn = .int .i64 ((lftN ks k : Nat) : Int)) (fun _ i => m - (intOf i).toNat)
 case atStart => exact ⟨0, Nat.zero_le _, rfl, rfl⟩
 case round =>
  obtain ⟨k, hk, rfl, rfl⟩ := hrel
  have hle := lftN_le ks k
  obtain ⟨lf, hlf⟩ : ∃ l, lftN ks k = l := ⟨_, rfl⟩
  rw [hlf] at hle
  rw [hlf]
  have HLF := Lib.hid hlf
  clear hlf
  by_cases hlt : k < m
  ·obtain ⟨b, off, rfl, hc⟩ := HK.out.2.2 (by omega)
   have hcell := hc k hlt
   obtain ⟨v, hv⟩ : ∃ v, ks k = v := ⟨_, rfl⟩
   rw [hv] at hcell
   have HV := Lib.hid hv
   have hkz : (k : Int) < (m : Int) := by omega
   have hk0 : (0 : Int) ≤ (k : Int) := by omega
   clear hc hv
   by_cases h0 : 0 ≤ v
   ·go_wp2_with fail
    go_round
    case rel => exact ⟨k + 1, by omega, by go_num, by rw [lftN_step ks (by rw [HV.out]; exact h0), HLF.out]; go_num⟩
    case measure => simp [intOf]; omega
   ·go_wp2_with fail
    go_round
    case rel => exact ⟨k + 1, by omega, by go_num, by rw [lftN_skip ks (by rw [HV.out]; exact h0), HLF.out]⟩
    case measure => simp [intOf]; omega
  ·obtain rfl : k = m := by omega
   by_cases h100 : 100 < k
   ·by_cases h8 : 8 < lf
    ·by_cases h20 : lf ≤ 20
     ·go_wp2_with fail
      go_ret
      exact ⟨rfl, Below.refl _ _⟩
     ·go_wp2_with fail
      go_ret
      exact ⟨rfl, Below.refl _ _⟩
    ·go_wp2_with fail
     go_ret
     exact ⟨rfl, Below.refl _ _⟩
   ·have h1 : 8 < lf ∧ lf ≤ 20 := by have := HLF.out; rcases hs with hs | hs; (· rw [this] at hs; exact hs); (· exact absurd hs h100)
    obtain ⟨h8, h20⟩ := h1
    go_wp2_with fail
    go_ret
    exact ⟨rfl, Below.refl _ _⟩
set_option maxRecDepth 20000 in
set_option maxHeartbeats 4000000 in
theorem persons_walk {N : Nat} (am ak : Option Addr) (n m cm ck : Nat) (D : MdD) (ks : Nat → Int) (q : Int) (w : World) (hN : N ≤ w.heap.size) (h : Ms w am n cm D) (hk : Is w ak m ck ks) (hs : ¬ ((8 < lftN ks m ∧ lftN ks m ≤ 20) ∨ 100 < m)) (c : Int) (Q : Rat → Prop) (h1 : ∀ w', Below w.heap.size w w' → N ≤ w'.heap.size → Calls Tryz.prog 4 #[.slice am n cm, .slice ak m ck, .int .i64 q] w' fun e w'' => ∃ p, RcPost N w' p c e w'' ∧ Q p) (h2 : ∀ p, Q p → ∀ w', Below w.heap.size w w' → N ≤ w'.heap.size → Calls Tryz.prog 5 #[.slice am n cm, .slice ak m ck, .int .i64 q] w' (RcPost N w' p c)) :
  Calls Tryz.prog 3 #[.slice am n cm, .slice ak m ck, .int .i64 q] w fun e w' => e = .returned (.bool true) ∧ Below w.heap.size w w' := by
 have H1 := Lib.hid h1
 have H2 := Lib.hid h2
 have zc : (c == c) = true := beq_self_eq_true c
 clear h1 h2
 have HA := Lib.hid h
 have HK := Lib.hid hk
 have kc := hk.1
 have km := hk.2.1
 unfold maxLen at km
 clear h hk
 go_enter Tryz.func3, Tryz.ntmps3
 go_wp2_with fail
 go_loop [7, 8] (fun nn i => ∃ k : Nat, k ≤ m ∧ i = .int .i64 k ∧ nn = .int .i64 ((lftN ks k : Nat) : Int)) (fun _ i => m - (intOf i).toNat)
 case atStart => exact ⟨0, Nat.zero_le _, rfl, rfl⟩
 case round =>
  obtain ⟨k, hk, rfl, rfl⟩ := hrel
  have hle := lftN_le ks k
  obtain ⟨lf, hlf⟩ : ∃ l, lftN ks k = l := ⟨_, rfl⟩
  rw [hlf] at hle
  rw [hlf]
  have HLF := Lib.hid hlf
  clear hlf
  by_cases hlt : k < m
  ·obtain ⟨b, off, rfl, hc⟩ := HK.out.2.2 (by omega)
   have hcell := hc k hlt
   obtain ⟨v, hv⟩ : ∃ v, ks k = v := ⟨_, rfl⟩
   rw [hv] at hcell
   have HV := Lib.hid hv
   have hkz : (k : Int) < (m : Int) := by omega
   have hk0 : (0 : Int) ≤ (k : Int) := by omega
   clear hc hv
   by_cases h0 : 0 ≤ v
   ·go_wp2_with fail
    go_round
    case rel => exact ⟨k + 1, by omega, by go_num, by rw [lftN_step ks (by rw [HV.out]; exact h0), HLF.out]; go_num⟩
    case measure => simp [intOf]; omega
   ·go_wp2_with fail
    go_round
    case rel => exact ⟨k + 1, by omega, by go_num, by rw [lftN_skip ks (by rw [HV.out]; exact h0), HLF.out]⟩
    case measure => simp [intOf]; omega
  ·obtain rfl : k = m := by omega
   have h100 : ¬ 100 < k := fun hh => hs (.inr hh)
   have HB := Lib.hid (Below.refl w.heap.size w)
   have hs0 : w.heap.size ≤ w.heap.size := Nat.le_refl _
   by_cases h8 : 8 < lf
   ·have h20 : ¬ lf ≤ 20 := fun hh => hs (.inl ⟨by rw [HLF.out]; exact h8, by rw [HLF.out]; exact hh⟩)
    go_wp2_with fail
    refine (H1.out _ HB.out hN).mono ?_
    rintro e wb ⟨p, ⟨rp, cp, rp2, cp2, rfl, hn, hn', hb⟩, hq⟩
    have hs_wb : w.heap.size ≤ wb.heap.size := hb.size
    replace HB := Lib.hid (HB.out.trans (hb.mono hs0))
    replace hN : N ≤ wb.heap.size := Nat.le_trans hN hb.size
    replace hs0 : w.heap.size ≤ wb.heap.size := Nat.le_trans hs0 hb.size
    clear hb
    have HP1 := Lib.hid hn
    have HP2 := Lib.hid hn'
    have HQ := Lib.hid hq
    clear hn hn' hq
    go_wp2_with fail
    refine calls_name fun WB hW => ?_
    have hs_WB : wb.heap.size ≤ WB.heap.size := by rw [← hW]; exact OmT
    have HK_WB := Lib.hid (show Kp N wb WB by rw [← hW]; exact KpA)
    have k_P_0 : WB.cell? ⟨wb.heap.size, 0, none⟩ = some (.bool (decide ((p).num < 0))) := by rw [← hW]; exact CeA
    have k_P_1 : WB.cell? ⟨wb.heap.size, 1, none⟩ = some (.slice rp (nlen (p).num.natAbs) cp) := by rw [← hW]; exact CeA
    have k_P_2 : WB.cell? ⟨wb.heap.size, 2, none⟩ = some (.slice rp2 (nlen (p).den) cp2) := by rw [← hW]; exact CeA
    have f_P : ∀ o, WB.frozen? ⟨wb.heap.size, o, none⟩ = false := by intro o; rw [← hW]; exact CeA
    have HX_P := Lib.hid (show Bn WB (wb.heap.size) by rw [← hW]; exact KpA)
    replace HP1 := Lib.hid (HP1.out.keep HK_WB.out)
    replace HP2 := Lib.hid (HP2.out.keep HK_WB.out)
    replace HB := Lib.hid (show Below w.heap.size w WB by rw [← hW]; exact BlA)
    replace hN : N ≤ WB.heap.size := by rw [← hW]; exact OmT
    replace hs0 : w.heap.size ≤ WB.heap.size := by rw [← hW]; exact OmT
    have hl_P : wb.heap.size < WB.heap.size := by rw [← hW]; exact OmT
    clear hW HK_WB
    refine (H2.out p HQ.out _ HB.out hN).mono ?_
    rintro e wc ⟨rr, cr, rr2, cr2, rfl, hn, hn', hb⟩
    have hs_wc : WB.heap.size ≤ wc.heap.size := hb.size
    replace k_P_0 : wc.cell? ⟨wb.heap.size, 0, none⟩ = some (.bool (decide ((p).num < 0))) := (hb.cell (p := ⟨wb.heap.size, 0, none⟩) hl_P).trans k_P_0
    replace k_P_1 : wc.cell? ⟨wb.heap.size, 1, none⟩ = some (.slice rp (nlen (p).num.natAbs) cp) := (hb.cell (p := ⟨wb.heap.size, 1, none⟩) hl_P).trans k_P_1
    replace k_P_2 : wc.cell? ⟨wb.heap.size, 2, none⟩ = some (.slice rp2 (nlen (p).den) cp2) := (hb.cell (p := ⟨wb.heap.size, 2, none⟩) hl_P).trans k_P_2
    replace f_P : ∀ o, wc.frozen? ⟨wb.heap.size, o, none⟩ = false := fun o => (hb.frozen (p := ⟨wb.heap.size, o, none⟩) hl_P).trans (f_P o)
    replace HX_P := Lib.hid (HX_P.out.below hb)
    replace HP1 := Lib.hid (HP1.out.below hb)
    replace HP2 := Lib.hid (HP2.out.below hb)
    replace HB := Lib.hid (HB.out.trans (hb.mono hs0))
    replace hN : N ≤ wc.heap.size := Nat.le_trans hN hb.size
    replace hs0 : w.heap.size ≤ wc.heap.size := Nat.le_trans hs0 hb.size
    replace hl_P : wb.heap.size < wc.heap.size := Nat.lt_of_lt_of_le hl_P hb.size
    clear hb
    have HR1 := Lib.hid hn
    clear hn
    have HR2 := Lib.hid hn'
    clear hn'
    go_wp2_with fail
    refine calls_name fun WC hW => ?_
    have HL_WC := Lib.hid (show Below wc.heap.size wc WC by rw [← hW]; exact BlA)
    have hs_WC : wc.heap.size ≤ WC.heap.size := by rw [← hW]; exact OmT
    have hd_P_Q : wb.heap.size < wc.heap.size := by omega
    have HK_WC := Lib.hid (show Kp N wc WC by rw [← hW]; exact KpA)
    replace k_P_0 : WC.cell? ⟨wb.heap.size, 0, none⟩ = some (.bool (decide ((p).num < 0))) := (HL_WC.out.cell (p := ⟨wb.heap.size, 0, none⟩) hl_P).trans k_P_0
    replace k_P_1 : WC.cell? ⟨wb.heap.size, 1, none⟩ = some (.slice rp (nlen (p).num.natAbs) cp) := (HL_WC.out.cell (p := ⟨wb.heap.size, 1, none⟩) hl_P).trans k_P_1
    replace k_P_2 : WC.cell? ⟨wb.heap.size, 2, none⟩ = some (.slice rp2 (nlen (p).den) cp2) := (HL_WC.out.cell (p := ⟨wb.heap.size, 2, none⟩) hl_P).trans k_P_2
    replace f_P : ∀ o, WC.frozen? ⟨wb.heap.size, o, none⟩ = false := fun o => (HL_WC.out.frozen (p := ⟨wb.heap.size, o, none⟩) hl_P).trans (f_P o)
    replace HX_P := Lib.hid (show Bn WC (wb.heap.size) by rw [← hW]; exact KpA)
    have k_Q_0 : WC.cell? ⟨wc.heap.size, 0, none⟩ = some (.bool (decide ((p).num < 0))) := by rw [← hW]; (first | (go_simp; done) | (simp; done) | (simp [go_sem]; done) | (simp [go_sem, k_P_0, k_P_1, k_P_2, f_P, hl_P]; done))
    have k_Q_1 : WC.cell? ⟨wc.heap.size, 1, none⟩ = some (.slice rr (nlen (p).num.natAbs) cr) := by rw [← hW]; (first | (go_simp; done) | (simp; done) | (simp [go_sem]; done) | (simp [go_sem, k_P_0, k_P_1, k_P_2, f_P, hl_P]; done))
    have k_Q_2 : WC.cell? ⟨wc.heap.size, 2, none⟩ = some (.slice rr2 (nlen (p).den) cr2) := by rw [← hW]; (first | (go_simp; done) | (simp; done) | (simp [go_sem]; done) | (simp [go_sem, k_P_0, k_P_1, k_P_2, f_P, hl_P]; done))
    have f_Q : ∀ o, WC.frozen? ⟨wc.heap.size, o, none⟩ = false := by intro o; rw [← hW]; (first | (go_simp; done) | (simp; done) | (simp [go_sem]; done) | (simp [go_sem, k_P_0, k_P_1, k_P_2, f_P, hl_P]; done))
    have HX_Q := Lib.hid (show Bn WC (wc.heap.size) by rw [← hW]; exact KpA)
    replace HP1 := Lib.hid (HP1.out.keep HK_WC.out)
    replace HP2 := Lib.hid (HP2.out.keep HK_WC.out)
    replace HR1 := Lib.hid (HR1.out.keep HK_WC.out)
    replace HR2 := Lib.hid (HR2.out.keep HK_WC.out)
    replace HB := Lib.hid (show Below w.heap.size w WC by rw [← hW]; exact BlA)
    replace hN : N ≤ WC.heap.size := by rw [← hW]; exact OmT
    replace hs0 : w.heap.size ≤ WC.heap.size := by rw [← hW]; exact OmT
    replace hl_P : wb.heap.size < WC.heap.size := by rw [← hW]; exact OmT
    have hl_Q : wc.heap.size < WC.heap.size := by rw [← hW]; exact OmT
    clear HL_WC
    clear hW HK_WC
    refine (same31_any (N := N) _ _ _ _ _ _ p.num.natAbs _ p.den _ _ _ _ _ HP1.out HP2.out HR1.out HR2.out).mono ?_
    rintro e wd ⟨rfl, hb⟩
    have hs_wd : WC.heap.size ≤ wd.heap.size := hb.size
    replace k_P_0 : wd.cell? ⟨wb.heap.size, 0, none⟩ = some (.bool (decide ((p).num < 0))) := (hb.cell (p := ⟨wb.heap.size, 0, none⟩) hl_P).trans k_P_0
    replace k_P_1 : wd.cell? ⟨wb.heap.size, 1, none⟩ = some (.slice rp (nlen (p).num.natAbs) cp) := (hb.cell (p := ⟨wb.heap.size, 1, none⟩) hl_P).trans k_P_1
    replace k_P_2 : wd.cell? ⟨wb.heap.size, 2, none⟩ = some (.slice rp2 (nlen (p).den) cp2) := (hb.cell (p := ⟨wb.heap.size, 2, none⟩) hl_P).trans k_P_2
    replace f_P : ∀ o, wd.frozen? ⟨wb.heap.size, o, none⟩ = false := fun o => (hb.frozen (p := ⟨wb.heap.size, o, none⟩) hl_P).trans (f_P o)
    replace HX_P := Lib.hid (HX_P.out.below hb)
    replace k_Q_0 : wd.cell? ⟨wc.heap.size, 0, none⟩ = some (.bool (decide ((p).num < 0))) := (hb.cell (p := ⟨wc.heap.size, 0, none⟩) hl_Q).trans k_Q_0
    replace k_Q_1 : wd.cell? ⟨wc.heap.size, 1, none⟩ = some (.slice rr (nlen (p).num.natAbs) cr) := (hb.cell (p := ⟨wc.heap.size, 1, none⟩) hl_Q).trans k_Q_1
    replace k_Q_2 : wd.cell? ⟨wc.heap.size, 2, none⟩ = some (.slice rr2 (nlen (p).den) cr2) := (hb.cell (p := ⟨wc.heap.size, 2, none⟩) hl_Q).trans k_Q_2
    replace f_Q : ∀ o, wd.frozen? ⟨wc.heap.size, o, none⟩ = false := fun o => (hb.frozen (p := ⟨wc.heap.size, o, none⟩) hl_Q).trans (f_Q o)
    replace HX_Q := Lib.hid (HX_Q.out.below hb)
    replace HP1 := Lib.hid (HP1.out.below hb)
    replace HP2 := Lib.hid (HP2.out.below hb)
    replace HR1 := Lib.hid (HR1.out.below hb)
    replace HR2 := Lib.hid (HR2.out.below hb)
    replace HB := Lib.hid (HB.out.trans (hb.mono hs0))
    replace hN : N ≤ wd.heap.size := Nat.le_trans hN hb.size
    replace hs0 : w.heap.size ≤ wd.heap.size := Nat.le_trans hs0 hb.size
    replace hl_P : wb.heap.size < wd.heap.size := Nat.lt_of_lt_of_le hl_P hb.size
    replace hl_Q : wc.heap.size < wd.heap.size := Nat.lt_of_lt_of_le hl_Q hb.size
    clear hb
    go_wp2_with fail
    go_ret
    exact ⟨rfl, HB.out⟩
   ·go_wp2_with fail
    refine (H1.out _ HB.out hN).mono ?_
    rintro e wb ⟨p, ⟨rp, cp, rp2, cp2, rfl, hn, hn', hb⟩, hq⟩
    have hs_wb : w.heap.size ≤ wb.heap.size := hb.size
    replace HB := Lib.hid (HB.out.trans (hb.mono hs0))
    replace hN : N ≤ wb.heap.size := Nat.le_trans hN hb.size
    replace hs0 : w.heap.size ≤ wb.heap.size := Nat.le_trans hs0 hb.size
    clear hb
    have HP1 := Lib.hid hn
    have HP2 := Lib.hid hn'
    have HQ := Lib.hid hq
    clear hn hn' hq
    go_wp2_with fail
    refine calls_name fun WB hW => ?_
    have hs_WB : wb.heap.size ≤ WB.heap.size := by rw [← hW]; exact OmT
    have HK_WB := Lib.hid (show Kp N wb WB by rw [← hW]; exact KpA)
    have k_P_0 : WB.cell? ⟨wb.heap.size, 0, none⟩ = some (.bool (decide ((p).num < 0))) := by rw [← hW]; exact CeA
    have k_P_1 : WB.cell? ⟨wb.heap.size, 1, none⟩ = some (.slice rp (nlen (p).num.natAbs) cp) := by rw [← hW]; exact CeA
    have k_P_2 : WB.cell? ⟨wb.heap.size, 2, none⟩ = some (.slice rp2 (nlen (p).den) cp2) := by rw [← hW]; exact CeA
    have f_P : ∀ o, WB.frozen? ⟨wb.heap.size, o, none⟩ = false := by intro o; rw [← hW]; exact CeA
    have HX_P := Lib.hid (show Bn WB (wb.heap.size) by rw [← hW]; exact KpA)
    replace HP1 := Lib.hid (HP1.out.keep HK_WB.out)
    replace HP2 := Lib.hid (HP2.out.keep HK_WB.out)
    replace HB := Lib.hid (show Below w.heap.size w WB by rw [← hW]; exact BlA)
    replace hN : N ≤ WB.heap.size := by rw [← hW]; exact OmT
    replace hs0 : w.heap.size ≤ WB.heap.size := by rw [← hW]; exact OmT
    have hl_P : wb.heap.size < WB.heap.size := by rw [← hW]; exact OmT
    clear hW HK_WB
    refine (H2.out p HQ.out _ HB.out hN).mono ?_
    rintro e wc ⟨rr, cr, rr2, cr2, rfl, hn, hn', hb⟩
    have hs_wc : WB.heap.size ≤ wc.heap.size := hb.size
    replace k_P_0 : wc.cell? ⟨wb.heap.size, 0, none⟩ = some (.bool (decide ((p).num < 0))) := (hb.cell (p := ⟨wb.heap.size, 0, none⟩) hl_P).trans k_P_0
    replace k_P_1 : wc.cell? ⟨wb.heap.size, 1, none⟩ = some (.slice rp (nlen (p).num.natAbs) cp) := (hb.cell (p := ⟨wb.heap.size, 1, none⟩) hl_P).trans k_P_1
    replace k_P_2 : wc.cell? ⟨wb.heap.size, 2, none⟩ = some (.slice rp2 (nlen (p).den) cp2) := (hb.cell (p := ⟨wb.heap.size, 2, none⟩) hl_P).trans k_P_2
    replace f_P : ∀ o, wc.frozen? ⟨wb.heap.size, o, none⟩ = false := fun o => (hb.frozen (p := ⟨wb.heap.size, o, none⟩) hl_P).trans (f_P o)
    replace HX_P := Lib.hid (HX_P.out.below hb)
    replace HP1 := Lib.hid (HP1.out.below hb)
    replace HP2 := Lib.hid (HP2.out.below hb)
    replace HB := Lib.hid (HB.out.trans (hb.mono hs0))
    replace hN : N ≤ wc.heap.size := Nat.le_trans hN hb.size
    replace hs0 : w.heap.size ≤ wc.heap.size := Nat.le_trans hs0 hb.size
    replace hl_P : wb.heap.size < wc.heap.size := Nat.lt_of_lt_of_le hl_P hb.size
    clear hb
    have HR1 := Lib.hid hn
    clear hn
    have HR2 := Lib.hid hn'
    clear hn'
    go_wp2_with fail
    refine calls_name fun WC hW => ?_
    have HL_WC := Lib.hid (show Below wc.heap.size wc WC by rw [← hW]; exact BlA)
    have hs_WC : wc.heap.size ≤ WC.heap.size := by rw [← hW]; exact OmT
    have hd_P_Q : wb.heap.size < wc.heap.size := by omega
    have HK_WC := Lib.hid (show Kp N wc WC by rw [← hW]; exact KpA)
    replace k_P_0 : WC.cell? ⟨wb.heap.size, 0, none⟩ = some (.bool (decide ((p).num < 0))) := (HL_WC.out.cell (p := ⟨wb.heap.size, 0, none⟩) hl_P).trans k_P_0
    replace k_P_1 : WC.cell? ⟨wb.heap.size, 1, none⟩ = some (.slice rp (nlen (p).num.natAbs) cp) := (HL_WC.out.cell (p := ⟨wb.heap.size, 1, none⟩) hl_P).trans k_P_1
    replace k_P_2 : WC.cell? ⟨wb.heap.size, 2, none⟩ = some (.slice rp2 (nlen (p).den) cp2) := (HL_WC.out.cell (p := ⟨wb.heap.size, 2, none⟩) hl_P).trans k_P_2
    replace f_P : ∀ o, WC.frozen? ⟨wb.heap.size, o, none⟩ = false := fun o => (HL_WC.out.frozen (p := ⟨wb.heap.size, o, none⟩) hl_P).trans (f_P o)
    replace HX_P := Lib.hid (show Bn WC (wb.heap.size) by rw [← hW]; exact KpA)
    have k_Q_0 : WC.cell? ⟨wc.heap.size, 0, none⟩ = some (.bool (decide ((p).num < 0))) := by rw [← hW]; (first | (go_simp; done) | (simp; done) | (simp [go_sem]; done) | (simp [go_sem, k_P_0, k_P_1, k_P_2, f_P, hl_P]; done))
    have k_Q_1 : WC.cell? ⟨wc.heap.size, 1, none⟩ = some (.slice rr (nlen (p).num.natAbs) cr) := by rw [← hW]; (first | (go_simp; done) | (simp; done) | (simp [go_sem]; done) | (simp [go_sem, k_P_0, k_P_1, k_P_2, f_P, hl_P]; done))
    have k_Q_2 : WC.cell? ⟨wc.heap.size, 2, none⟩ = some (.slice rr2 (nlen (p).den) cr2) := by rw [← hW]; (first | (go_simp; done) | (simp; done) | (simp [go_sem]; done) | (simp [go_sem, k_P_0, k_P_1, k_P_2, f_P, hl_P]; done))
    have f_Q : ∀ o, WC.frozen? ⟨wc.heap.size, o, none⟩ = false := by intro o; rw [← hW]; (first | (go_simp; done) | (simp; done) | (simp [go_sem]; done) | (simp [go_sem, k_P_0, k_P_1, k_P_2, f_P, hl_P]; done))
    have HX_Q := Lib.hid (show Bn WC (wc.heap.size) by rw [← hW]; exact KpA)
    replace HP1 := Lib.hid (HP1.out.keep HK_WC.out)
    replace HP2 := Lib.hid (HP2.out.keep HK_WC.out)
    replace HR1 := Lib.hid (HR1.out.keep HK_WC.out)
    replace HR2 := Lib.hid (HR2.out.keep HK_WC.out)
    replace HB := Lib.hid (show Below w.heap.size w WC by rw [← hW]; exact BlA)
    replace hN : N ≤ WC.heap.size := by rw [← hW]; exact OmT
    replace hs0 : w.heap.size ≤ WC.heap.size := by rw [← hW]; exact OmT
    replace hl_P : wb.heap.size < WC.heap.size := by rw [← hW]; exact OmT
    have hl_Q : wc.heap.size < WC.heap.size := by rw [← hW]; exact OmT
    clear HL_WC
    clear hW HK_WC
    refine (same31_any (N := N) _ _ _ _ _ _ p.num.natAbs _ p.den _ _ _ _ _ HP1.out HP2.out HR1.out HR2.out).mono ?_
    rintro e wd ⟨rfl, hb⟩
    have hs_wd : WC.heap.size ≤ wd.heap.size := hb.size
    replace k_P_0 : wd.cell? ⟨wb.heap.size, 0, none⟩ = some (.bool (decide ((p).num < 0))) := (hb.cell (p := ⟨wb.heap.size, 0, none⟩) hl_P).trans k_P_0
    replace k_P_1 : wd.cell? ⟨wb.heap.size, 1, none⟩ = some (.slice rp (nlen (p).num.natAbs) cp) := (hb.cell (p := ⟨wb.heap.size, 1, none⟩) hl_P).trans k_P_1
    replace k_P_2 : wd.cell? ⟨wb.heap.size, 2, none⟩ = some (.slice rp2 (nlen (p).den) cp2) := (hb.cell (p := ⟨wb.heap.size, 2, none⟩) hl_P).trans k_P_2
    replace f_P : ∀ o, wd.frozen? ⟨wb.heap.size, o, none⟩ = false := fun o => (hb.frozen (p := ⟨wb.heap.size, o, none⟩) hl_P).trans (f_P o)
    replace HX_P := Lib.hid (HX_P.out.below hb)
    replace k_Q_0 : wd.cell? ⟨wc.heap.size, 0, none⟩ = some (.bool (decide ((p).num < 0))) := (hb.cell (p := ⟨wc.heap.size, 0, none⟩) hl_Q).trans k_Q_0
    replace k_Q_1 : wd.cell? ⟨wc.heap.size, 1, none⟩ = some (.slice rr (nlen (p).num.natAbs) cr) := (hb.cell (p := ⟨wc.heap.size, 1, none⟩) hl_Q).trans k_Q_1
    replace k_Q_2 : wd.cell? ⟨wc.heap.size, 2, none⟩ = some (.slice rr2 (nlen (p).den) cr2) := (hb.cell (p := ⟨wc.heap.size, 2, none⟩) hl_Q).trans k_Q_2
    replace f_Q : ∀ o, wd.frozen? ⟨wc.heap.size, o, none⟩ = false := fun o => (hb.frozen (p := ⟨wc.heap.size, o, none⟩) hl_Q).trans (f_Q o)
    replace HX_Q := Lib.hid (HX_Q.out.below hb)
    replace HP1 := Lib.hid (HP1.out.below hb)
    replace HP2 := Lib.hid (HP2.out.below hb)
    replace HR1 := Lib.hid (HR1.out.below hb)
    replace HR2 := Lib.hid (HR2.out.below hb)
    replace HB := Lib.hid (HB.out.trans (hb.mono hs0))
    replace hN : N ≤ wd.heap.size := Nat.le_trans hN hb.size
    replace hs0 : w.heap.size ≤ wd.heap.size := Nat.le_trans hs0 hb.size
    replace hl_P : wb.heap.size < wd.heap.size := Nat.lt_of_lt_of_le hl_P hb.size
    replace hl_Q : wc.heap.size < wd.heap.size := Nat.lt_of_lt_of_le hl_Q hb.size
    clear hb
    go_wp2_with fail
    go_ret
    exact ⟨rfl, HB.out⟩
set_option maxHeartbeats 4000000 in
theorem persons_any {N : Nat} (am ak : Option Addr) (n m cm ck : Nat) (D : MdD) (ks : Nat → Int) (q : Int) (w : World) (hN : N ≤ w.heap.size) (h : Ms w am n cm D) (hk : Is w ak m ck ks) :
  Calls Tryz.prog 3 #[.slice am n cm, .slice ak m ck, .int .i64 q] w fun e w' => e = .returned (.bool true) ∧ Below w.heap.size w w' := by
 by_cases hs : (8 < lftN ks m ∧ lftN ks m ≤ 20) ∨ 100 < m
 ·exact persons_skip (N := N) am ak n m cm ck D ks q w hN h hk hs
 ·by_cases hc : chkM D n m ks q = 0
  ·obtain ⟨n60, hv, h2, rfl, hm1, hq0, hq, hks⟩ := chkM_zero hc
   obtain ⟨qi, rfl⟩ : ∃ qi : Nat, q = (qi : Int) := ⟨q.toNat, by omega⟩
   by_cases hl : lftN ks m ≤ 20
   ·have hp : chkP D m m ks qi = 0 := by unfold chkP; rw [if_neg (fun hh => hh hc), if_neg (by omega)]
    refine persons_walk (N := N) am ak m m cm ck D ks qi w hN h hk hs 0 (fun p => ∃ d, Prm (lftN ks m) d ∧ Srt (keyT (gtQ (pSel D qi ks m))) 0 (lftN ks m) d ∧ upQ (nlQ (fun j => pSel D qi ks m (d j)) (lftN ks m)) (lftN ks m * lftN ks m / 4 + 1) (erN (fun j => xSel ks m (d j)) (lftN ks m)) = p) ?_ ?_
    ·intro w' hb hN'
     refine (person_ok (N := N) am ak m cm ck D ks qi w' hN' (h.below hb) (hk.below hb) hp).mono ?_
     rintro e w'' ⟨d, h1, h2, h3⟩
     exact ⟨_, h3, d, h1, h2, rfl⟩
    ·rintro p ⟨d, h1, h2, h3⟩ w' hb hN'
     exact xperson_ok (N := N) am ak m cm ck D ks qi w' hN' (h.below hb) (hk.below hb) hc hl d h1 h2 p h3
   ·have hp : chkP D m m ks qi = 5 := by unfold chkP; rw [if_neg (fun hh => hh hc), if_pos (by omega)]
    refine persons_walk (N := N) am ak m m cm ck D ks qi w hN h hk hs 5 (fun p => 0 = p) ?_ ?_
    ·intro w' hb hN'
     refine (person_bad (N := N) am ak m m cm ck D ks qi w' hN' (h.below hb) (hk.below hb) 5 (by decide) hp 0 rfl).mono ?_
     exact fun e w'' he => ⟨0, he, rfl⟩
    ·intro p hpp w' hb hN'
     exact xperson_long (N := N) am ak m cm ck D ks qi w' hN' (h.below hb) (hk.below hb) hc (by omega) p hpp
  ·refine persons_walk (N := N) am ak n m cm ck D ks q w hN h hk hs (chkM D n m ks q) (fun p => 0 = p) ?_ ?_
   ·intro w' hb hN'
    refine (person_bad (N := N) am ak n m cm ck D ks q w' hN' (h.below hb) (hk.below hb) _ hc (chkP_of rfl hc) 0 rfl).mono ?_
    exact fun e w'' he => ⟨0, he, rfl⟩
   ·intro p hpp w' hb hN'
    exact xperson_bad (N := N) am ak n m cm ck D ks q w' hN' (h.below hb) (hk.below hb) _ hc rfl p hpp
end Go.Proofs.YtjobopafcgnljaaGreat
