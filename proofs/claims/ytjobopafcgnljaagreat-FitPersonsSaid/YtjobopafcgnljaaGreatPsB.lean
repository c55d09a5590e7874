import Derived.Test.YtjobopafcgnljaaGreatAl
import Derived.Test.YtjobopafcgnljaaGreatPsA
import Derived.Test.YtjobopafcgnljaaGreatXnC
import Derived.Test.YtjobopafcgnljaaGreatXnO
namespace Go.Proofs.YtjobopafcgnljaaGreat
open Go.RowKit
set_option maxHeartbeats 2000000 in
theorem xperson_bad {N : Nat} (am ak : Option Addr) (n m cm ck : Nat) (D : MdD) (ks : Nat → Int) (q : Int) (w : World) (hN : N ≤ w.heap.size) (h : Ms w am n cm D) (hk : Is w ak m ck ks) (c : Int) (h0 : c ≠ 0) (hc : chkM D n m ks q = c) (p : Rat) (hp : 0 = p) :
  Calls Tryz.prog 5 #[.slice am n cm, .slice ak m ck, .int .i64 q] w (RcPost N w p c) := by
 replace hp := zero_wh hp
 have HA := Lib.hid h
 have HK := Lib.hid hk
 have HC0 := Lib.hid hc
 have HP := Lib.hid hp
 have z0 : (c == 0) = false := by simpa using h0
 clear h hk hc hp
 have hN0 := hN
 have HB := Lib.hid (Below.refl w.heap.size w)
 go_enter Tryz.func5, Tryz.ntmps5
 go_wp2_with fail
 refine calls_name fun W0 hW => ?_
 have hs_W0 : w.heap.size ≤ W0.heap.size := by rw [← hW]; exact OmT
 have HL_W0 := Lib.hid (show Below w.heap.size w W0 by rw [← hW]; exact BlA)
 have k_R_0 : W0.cell? ⟨w.heap.size, 0, none⟩ = some (.bool false) := by rw [← hW]; exact CeA
 have k_R_1 : W0.cell? ⟨w.heap.size, 1, none⟩ = some (.slice none 0 0) := by rw [← hW]; exact CeA
 have k_R_2 : W0.cell? ⟨w.heap.size, 2, none⟩ = some (.slice none 0 0) := by rw [← hW]; exact CeA
 have f_R : ∀ o, W0.frozen? ⟨w.heap.size, o, none⟩ = false := by intro o; rw [← hW]; exact CeA
 have HX_R := Lib.hid (show Bn W0 (w.heap.size) by rw [← hW]; exact KpA)
 replace HB := Lib.hid (show Below w.heap.size w W0 by rw [← hW]; exact BlA)
 replace hN : N ≤ W0.heap.size := by rw [← hW]; exact OmT
 have hs0 : w.heap.size ≤ W0.heap.size := by rw [← hW]; exact OmT
 have hl_R : w.heap.size < W0.heap.size := by rw [← hW]; exact OmT
 replace HA := Lib.hid (HA.out.below HL_W0.out)
 replace HK := Lib.hid (HK.out.below HL_W0.out)
 clear HL_W0
 clear hW
 refine (models_any _ _ n _ m _ D ks _ _ HA.out HK.out).mono ?_
 rw [HC0.out]
 rintro e wa ⟨rfl, hb⟩
 have hs_wa : W0.heap.size ≤ wa.heap.size := hb.size
 replace k_R_0 : wa.cell? ⟨w.heap.size, 0, none⟩ = some (.bool false) := (hb.cell (p := ⟨w.heap.size, 0, none⟩) hl_R).trans k_R_0
 replace k_R_1 : wa.cell? ⟨w.heap.size, 1, none⟩ = some (.slice none 0 0) := (hb.cell (p := ⟨w.heap.size, 1, none⟩) hl_R).trans k_R_1
 replace k_R_2 : wa.cell? ⟨w.heap.size, 2, none⟩ = some (.slice none 0 0) := (hb.cell (p := ⟨w.heap.size, 2, none⟩) hl_R).trans k_R_2
 replace f_R : ∀ o, wa.frozen? ⟨w.heap.size, o, none⟩ = false := fun o => (hb.frozen (p := ⟨w.heap.size, o, none⟩) hl_R).trans (f_R o)
 replace HX_R := Lib.hid (HX_R.out.below hb)
 replace HB := Lib.hid (HB.out.trans (hb.mono hs0))
 replace hN : N ≤ wa.heap.size := Nat.le_trans hN hb.size
 replace hs0 : w.heap.size ≤ wa.heap.size := Nat.le_trans hs0 hb.size
 replace hl_R : w.heap.size < wa.heap.size := Nat.lt_of_lt_of_le hl_R hb.size
 replace HA := Lib.hid (HA.out.below hb)
 replace HK := Lib.hid (HK.out.below hb)
 clear hb
 go_wp2_with fail
 refine (xwhole_any (N := N) 0 _ hN (by omega) (by omega) p HP.out).mono ?_
 rintro e wz ⟨rz, cz, rz2, cz2, rfl, hn, hn', hb⟩
 have hs_wz : wa.heap.size ≤ wz.heap.size := hb.size
 replace k_R_0 : wz.cell? ⟨w.heap.size, 0, none⟩ = some (.bool false) := (hb.cell (p := ⟨w.heap.size, 0, none⟩) hl_R).trans k_R_0
 replace k_R_1 : wz.cell? ⟨w.heap.size, 1, none⟩ = some (.slice none 0 0) := (hb.cell (p := ⟨w.heap.size, 1, none⟩) hl_R).trans k_R_1
 replace k_R_2 : wz.cell? ⟨w.heap.size, 2, none⟩ = some (.slice none 0 0) := (hb.cell (p := ⟨w.heap.size, 2, none⟩) hl_R).trans k_R_2
 replace f_R : ∀ o, wz.frozen? ⟨w.heap.size, o, none⟩ = false := fun o => (hb.frozen (p := ⟨w.heap.size, o, none⟩) hl_R).trans (f_R o)
 replace HX_R := Lib.hid (HX_R.out.below hb)
 replace HB := Lib.hid (HB.out.trans (hb.mono hs0))
 replace hN : N ≤ wz.heap.size := Nat.le_trans hN hb.size
 replace hs0 : w.heap.size ≤ wz.heap.size := Nat.le_trans hs0 hb.size
 replace hl_R : w.heap.size < wz.heap.size := Nat.lt_of_lt_of_le hl_R hb.size
 replace HA := Lib.hid (HA.out.below hb)
 replace HK := Lib.hid (HK.out.below hb)
 clear hb
 have HZ1 := Lib.hid hn
 clear hn
 have HZ2 := Lib.hid hn'
 clear hn'
 go_wp2_with fail
 refine bodyPost_ret (v := .tuple #[.agg #[.bool (decide ((p).num < 0)), .slice rz (nlen (p).num.natAbs) cz, .slice rz2 (nlen (p).den) cz2], .int .i64 c]) (by simp [results, Tryz.results5, go_sem, k_R_0, k_R_1, k_R_2]) rfl ⟨_, _, _, _, rfl, HZ1.out.keep ?_, HZ2.out.keep ?_, ?_⟩
 all_goals exact KBA
set_option maxHeartbeats 8000000 in
set_option maxRecDepth 20000 in
theorem xperson_long {N : Nat} (am ak : Option Addr) (m cm ck : Nat) (D : MdD) (ks : Nat → Int) (qi : Nat) (w : World) (hN : N ≤ w.heap.size) (h : Ms w am m cm D) (hk : Is w ak m ck ks) (hm0 : chkM D m m ks qi = 0) (hl20 : 20 < lftN ks m) (p : Rat) (hp : 0 = p) :
  Calls Tryz.prog 5 #[.slice am m cm, .slice ak m ck, .int .i64 qi] w (RcPost N w p 5) := by
 have HA := Lib.hid h
 have HK := Lib.hid hk
 have kc := hk.1
 have km := hk.2.1
 unfold maxLen at km
 obtain ⟨m60, hv, h2, _, hm1, _, hq, hks⟩ := chkM_zero hm0
 have HC0 := Lib.hid hm0
 have HI := Lib.hid (fun i (hi : i < m) => itm_ok (qi := qi) hv h2 hq hi)
 have HSL := Lib.hid (sel_ok (ks := ks) hv h2 hq)
 have HP0 := Lib.hid (zero_wh hp)
 clear hp
 clear h hk hm0 hv h2 hq hks
 obtain ⟨i0, hi, hz0, hz1, hz2⟩ := info_parts Tryz.infoBoolM
 obtain ⟨i1, hi1, hy0, hy1, hy2⟩ := info_parts Tryz.infoRat
 obtain ⟨c, hcm⟩ : ∃ c, lftN ks m = c := ⟨_, rfl⟩
 have hl60 : c ≤ 60 := by have := lftN_le ks m; omega
 rw [hcm] at hl20 HSL
 have HCM := Lib.hid hcm
 clear hcm
 have hN0 := hN
 have HB := Lib.hid (Below.refl w.heap.size w)
 go_enter Tryz.func5, Tryz.ntmps5
 go_wp2_with fail
 refine calls_name fun W0 hW => ?_
 have hs_W0 : w.heap.size ≤ W0.heap.size := by rw [← hW]; exact OmT
 have HL_W0 := Lib.hid (show Below w.heap.size w W0 by rw [← hW]; exact BlA)
 have k_R_0 : W0.cell? ⟨w.heap.size, 0, none⟩ = some (.bool false) := by rw [← hW]; exact CeA
 have k_R_1 : W0.cell? ⟨w.heap.size, 1, none⟩ = some (.slice none 0 0) := by rw [← hW]; exact CeA
 have k_R_2 : W0.cell? ⟨w.heap.size, 2, none⟩ = some (.slice none 0 0) := by rw [← hW]; exact CeA
 have f_R : ∀ o, W0.frozen? ⟨w.heap.size, o, none⟩ = false := by intro o; rw [← hW]; exact CeA
 have HX_R := Lib.hid (show Bn W0 (w.heap.size) by rw [← hW]; exact KpA)
 replace HB := Lib.hid (show Below w.heap.size w W0 by rw [← hW]; exact BlA)
 replace hN : N ≤ W0.heap.size := by rw [← hW]; exact OmT
 have hs0 : w.heap.size ≤ W0.heap.size := by rw [← hW]; exact OmT
 have hl_R : w.heap.size < W0.heap.size := by rw [← hW]; exact OmT
 replace HA := Lib.hid (HA.out.below HL_W0.out)
 replace HK := Lib.hid (HK.out.below HL_W0.out)
 clear HL_W0
 clear hW
 refine (models_any _ _ m _ m _ D ks _ _ HA.out HK.out).mono ?_
 rw [HC0.out]
 rintro e wa ⟨rfl, hb⟩
 have hs_wa : W0.heap.size ≤ wa.heap.size := hb.size
 replace k_R_0 : wa.cell? ⟨w.heap.size, 0, none⟩ = some (.bool false) := (hb.cell (p := ⟨w.heap.size, 0, none⟩) hl_R).trans k_R_0
 replace k_R_1 : wa.cell? ⟨w.heap.size, 1, none⟩ = some (.slice none 0 0) := (hb.cell (p := ⟨w.heap.size, 1, none⟩) hl_R).trans k_R_1
 replace k_R_2 : wa.cell? ⟨w.heap.size, 2, none⟩ = some (.slice none 0 0) := (hb.cell (p := ⟨w.heap.size, 2, none⟩) hl_R).trans k_R_2
 replace f_R : ∀ o, wa.frozen? ⟨w.heap.size, o, none⟩ = false := fun o => (hb.frozen (p := ⟨w.heap.size, o, none⟩) hl_R).trans (f_R o)
 replace HX_R := Lib.hid (HX_R.out.below hb)
 replace HB := Lib.hid (HB.out.trans (hb.mono hs0))
 replace hN : N ≤ wa.heap.size := Nat.le_trans hN hb.size
 replace hs0 : w.heap.size ≤ wa.heap.size := Nat.le_trans hs0 hb.size
 replace hl_R : w.heap.size < wa.heap.size := Nat.lt_of_lt_of_le hl_R hb.size
 replace HA := Lib.hid (HA.out.below hb)
 replace HK := Lib.hid (HK.out.below hb)
 clear hb
 go_wp2_with fail
 go_loopw [9, 10, 11] (fun pl rt i wr => ∃ k : Nat, k ≤ m ∧ i = .int .i64 k ∧ Ol N wa.heap.size wr pl (lftN ks k) (pSel D qi ks m) ∧ ObM wa.heap.size wr rt (lftN ks k) (xSel ks m) ∧ Hid (∀ b, rt.ownBlock = some b → pl.ownBlock ≠ some b) ∧ Below wa.heap.size wa wr) (fun _ _ i _ => m - (intOf i).toNat)
 case atStart => exact ⟨0, Nat.zero_le _, rfl, Ol.nil _ _ _ _, ⟨rfl, .inl ⟨rfl, rfl⟩⟩, Lib.hid (fun b h => by simp [Value.ownBlock] at h), Below.refl _ _⟩
 case round =>
  obtain ⟨k, hkm, rfl, hol, hob, HNE, hbel⟩ := hrel
  obtain ⟨wr0, rfl⟩ : ∃ x : World, x = wr := ⟨_, rfl⟩
  have HOB := Lib.hid hob
  have HOL := Lib.hid hol
  have HBa := Lib.hid hbel
  have hsa : wa.heap.size ≤ wr0.heap.size := hbel.size
  clear hN
  have hN : N ≤ wr0.heap.size := by omega
  clear hob hol hbel
  have hck := lftN_mono ks hkm
  by_cases hlt : k < m
  ·obtain ⟨bk, ok, rfl, hc2⟩ := HK.out.2.2 (by omega)
   have hcw := hc2 k hlt
   obtain ⟨v, hv⟩ : ∃ v, ks k = v := ⟨_, rfl⟩
   rw [hv] at hcw
   have HCW := Lib.hid hcw
   have hcell := cell_mono hcw HBa.out
   have HV := Lib.hid hv
   have hkz : (k : Int) < (m : Int) := by omega
   have hk0 : (0 : Int) ≤ (k : Int) := by omega
   clear hc2 hv hcw
   by_cases hneg : v < 0
   ·have HS0 := Lib.hid (lftN_skip ks (i := k) (by rw [HV.out]; omega))
    go_wp2_with fail
    go_roundw
    case rel => exact ⟨k + 1, by omega, by go_num, by rw [HS0.out]; exact HOL.out, by rw [HS0.out]; exact HOB.out, HNE, HBa.out⟩
    case measure => simp [intOf]; omega
   by_cases h1 : v = 1
   ·have h1b : (v == 1) = true := by simpa using h1
    have hge : 0 ≤ v := by omega
    have HS0 := Lib.hid (lftN_step ks (i := k) (by rw [HV.out]; omega))
    have HSE := Lib.hid (selN_eq (ks := ks) (i := k) (by rw [HV.out]; omega) hlt)
    have HXF := Lib.hid (show xSel ks m (lftN ks k) = true by unfold xSel; rw [HSE.out, HV.out]; exact decide_eq_true h1)
    clear h1
    obtain ⟨b, off, rfl, hca⟩ := (HA.out.below HBa.out).2.2 (by omega)
    obtain ⟨g0, hr0⟩ := hca k hlt
    have HR := Lib.hid hr0
    obtain ⟨e1, e2, e3, e4, e5⟩ := HI.out k hlt
    have HE := Lib.hid (And.intro e1 (And.intro e2 (And.intro e3 (And.intro e4 e5))))
    obtain ⟨p, hp⟩ : ∃ p, pSel D qi ks m (lftN ks k) = p := ⟨_, rfl⟩
    have HP := Lib.hid hp
    have HP2 := Lib.hid (show ((D.z k qi 1 : Int) : Rat) / ((1000 : Int) : Rat) = p by rw [← hp]; unfold pSel pIt; rw [HSE.out])
    clear hca hr0 hp e1 e2 e3 e4 e5
    obtain ⟨cc, hcc⟩ : ∃ c, lftN ks k = c := ⟨_, rfl⟩
    have HCC := Lib.hid hcc
    have hcc60 : cc ≤ 60 := by have h := HCM.out; omega
    rw [hcc] at HOB HOL
    clear hcc
    have HB := Lib.hid (Below.refl wr0.heap.size wr0)
    have hs0 : wr0.heap.size ≤ wr0.heap.size := Nat.le_refl _
    go_wp2_with fail
    refine calls_name fun W1 hW => ?_
    have hs_W1 : wr0.heap.size ≤ W1.heap.size := by rw [← hW]; exact OmT
    replace HB := Lib.hid (show Below wr0.heap.size wr0 W1 by rw [← hW]; exact BlA)
    replace hN : N ≤ W1.heap.size := by rw [← hW]; exact OmT
    replace hs0 : wr0.heap.size ≤ W1.heap.size := by rw [← hW]; exact OmT
    clear hW
    have HOB1 := Lib.hid (HOB.out.below HB.out)
    have HOL1 := Lib.hid (HOL.out.below HB.out)
    have HR1 := Lib.hid (HR.out.below HB.out)
    refine (xmprob_any (N := N) _ _ _ _ _ _ _ _ HR1.out hN HE.out.1 qi HE.out.2.1 HE.out.2.2.1 HE.out.2.2.2.1 HE.out.2.2.2.2 p HP2.out).mono ?_
    rintro e wb ⟨rp, cp, rp2, cp2, rfl, hn, hn', hb⟩
    have hs_wb : W1.heap.size ≤ wb.heap.size := hb.size
    replace HB := Lib.hid (HB.out.trans (hb.mono hs0))
    replace hN : N ≤ wb.heap.size := Nat.le_trans hN hb.size
    replace hs0 : wr0.heap.size ≤ wb.heap.size := Nat.le_trans hs0 hb.size
    replace HOB1 := Lib.hid (HOB1.out.below hb)
    replace HOL1 := Lib.hid (HOL1.out.below hb)
    clear hb
    have HP1 := Lib.hid hn
    clear hn
    have HPB := Lib.hid hn'
    clear hn'
    go_upto_region 11 with fail
    refine region_name fun W2 hW => ?_
    have hs_W2 : wb.heap.size ≤ W2.heap.size := by rw [← hW]; exact OmT
    have HK_W2 := Lib.hid (show Kp N wb W2 by rw [← hW]; exact KpA)
    have HL_W2 := Lib.hid (show Below wb.heap.size wb W2 by rw [← hW]; exact BlA)
    have k_P_0 : W2.cell? ⟨wb.heap.size, 0, none⟩ = some (.bool (decide ((p).num < 0))) := by rw [← hW]; exact CeA
    have k_P_1 : W2.cell? ⟨wb.heap.size, 1, none⟩ = some (.slice rp (nlen (p).num.natAbs) cp) := by rw [← hW]; exact CeA
    have k_P_2 : W2.cell? ⟨wb.heap.size, 2, none⟩ = some (.slice rp2 (nlen (p).den) cp2) := by rw [← hW]; exact CeA
    have f_P : ∀ o, W2.frozen? ⟨wb.heap.size, o, none⟩ = false := by intro o; rw [← hW]; exact CeA
    have HX_P := Lib.hid (show Bn W2 (wb.heap.size) by rw [← hW]; exact KpA)
    replace HP1 := Lib.hid (HP1.out.keep HK_W2.out)
    replace HPB := Lib.hid (HPB.out.keep HK_W2.out)
    replace HB := Lib.hid (show Below wr0.heap.size wr0 W2 by rw [← hW]; exact BlA)
    replace hN : N ≤ W2.heap.size := by rw [← hW]; exact OmT
    replace hs0 : wr0.heap.size ≤ W2.heap.size := by rw [← hW]; exact OmT
    have hl_P : wb.heap.size < W2.heap.size := by rw [← hW]; exact OmT
    replace HOB1 := Lib.hid (HOB1.out.below HL_W2.out)
    replace HOL1 := Lib.hid (HOL1.out.below HL_W2.out)
    clear HL_W2
    clear hW HK_W2
    skip
    obtain ⟨xs, hown, hcl⟩ := HOL1.out
    have HO9 := Lib.hid hown
    have HC9 := Lib.hid hcl
    clear hown hcl
    go_upto_region 12 with (at_builtin; refine wpList_append_own_at _ rfl (.tmp 46) (.tmp 48) 38 rfl wa.heap.size 29 i1 (.agg #[.bool false, .slice none 0 0, .slice none 0 0]) 3 56 Tryz.underRats hi1 hy0 hy1 hy2 rfl (by decide) _ cc xs rfl (HO9.out.alloc _) ⟨W2.heap.size, 0, none⟩ 1 1 [.bool (decide ((p).num < 0)), .slice rp (nlen (p).num.natAbs) cp, .slice rp2 (nlen (p).den) cp2] rfl rfl (cell_three W2 _ _ _ _) (by intro u hu; simp at hu; rcases hu with rfl | rfl | rfl <;> rfl) (by unfold maxLen; omega) (by omega) (by simp; omega) ?_; intro v1 w1 ho1 hg1 _ hat1; have HG1 := Lib.hid hg1; have HAT1 := Lib.hid hat1; have HO1 := Lib.hid ho1; clear ho1 hg1 hat1)
    have KPa := Lib.hid (own_kp (N := N) (HO9.out.alloc (.cells #[.bool (decide ((p).num < 0)), .slice rp (nlen (p).num.natAbs) cp, .slice rp2 (nlen (p).den) cp2] 29)) (by omega) HG1.out)
    have KP1 := Lib.hid (((Kp.refl N W2).alloc (.cells #[.bool (decide ((p).num < 0)), .slice rp (nlen (p).num.natAbs) cp, .slice rp2 (nlen (p).den) cp2] 29)).trans KPa.out)
    have HBa1 := Lib.hid (own_belM (HO9.out.alloc (.cells #[.bool (decide ((p).num < 0)), .slice rp (nlen (p).num.natAbs) cp, .slice rp2 (nlen (p).den) cp2] 29)) ((HBa.out.trans (HB.out.mono hsa)).alloc (by omega) _) (by simp; omega) HG1.out)
    have HOLn := Lib.hid (show Ol N wa.heap.size w1 v1 (cc + 1) (pSel D qi ks m) from ⟨_, HO1.out, Cl.push (HC9.out.imp fun i v0 v1 v2 _ e => e.keep KP1.out) (show En N w1 (pSel D qi ks m) cc _ _ _ from ⟨rp, cp, rp2, cp2, by rw [show pSel D qi ks m cc = p by rw [← HCC.out]; exact HP.out], by rw [show pSel D qi ks m cc = p by rw [← HCC.out]; exact HP.out], by rw [show pSel D qi ks m cc = p by rw [← HCC.out]; exact HP.out], by rw [show pSel D qi ks m cc = p by rw [← HCC.out]; exact HP.out]; exact HP1.out.keep KP1.out, by rw [show pSel D qi ks m cc = p by rw [← HCC.out]; exact HP.out]; exact HPB.out.keep KP1.out⟩)⟩)
    have hrt := fun b hb => World.ownsRow.lt HOB.out b hb
    have HOBm := Lib.hid (show ObM wa.heap.size w1 _ cc (xSel ks m) from own_other (World.ownsRow.alloc HOB1.out (.cells #[.bool (decide ((p).num < 0)), .slice rp (nlen (p).num.natAbs) cp, .slice rp2 (nlen (p).den) cp2] 29)) HG1.out (fun b hb => HNE.out b hb))
    have HNE1 := Lib.hid (ne_step2 HNE.out HAT1.out (fun b hb => by have := hrt b hb; simp; omega))
    have hs1 : W2.heap.size ≤ w1.heap.size := KP1.out.1
    have hcell1 := cell_mono HCW.out HBa1.out
    clear HO1 KPa HOL HOL1 HOB1 k_P_0 k_P_1 k_P_2 f_P hcell HO9 HC9
    go_wp2_with (at_builtin; refine wpList_append_own_at _ rfl (.tmp 50) (.tmp 56) 37 rfl wa.heap.size 4 i0 (.bool false) 1 1 Tryz.underBoolsM hi hz0 hz1 hz2 rfl (by decide) _ cc ((List.range cc).map fun i => .bool (xSel ks m i)) rfl (World.ownsRow.alloc HOBm.out _) ⟨w1.heap.size, 0, none⟩ 1 1 [.bool true] (by first | rfl | simp) rfl (cell_one_new _ _ _) (by intro u hu; simp at hu; subst hu; rfl) (by unfold maxLen; omega) (by omega) (by simp; omega) ?_; intro v2 w2 ho2 hg2 _ hat2; have HG2 := Lib.hid hg2; have HAT2 := Lib.hid hat2; have HO2 := Lib.hid ho2; clear ho2 hg2 hat2)
    have KPb := Lib.hid (own_kpM (N := N) (World.ownsRow.alloc HOBm.out (.cells #[.bool true] 4)) (by omega) HG2.out)
    have HBa2 := Lib.hid (own_belM (World.ownsRow.alloc HOBm.out (.cells #[.bool true] 4)) (HBa1.out.alloc (by omega) _) (by simp; omega) HG2.out)
    have HOBz := Lib.hid (ObM.push (show xSel ks m cc = true by rw [← HCC.out]; exact HXF.out) HO2.out)
    have HOLz := Lib.hid ((HOLn.out.below (bel1 w1 (.cells #[.bool true] 4))).other HG2.out (fun b hb hh => HNE1.out b hh hb) KPb.out)
    have hpl := HOLn.out.lt
    have HNE2 := Lib.hid (ne_step HNE1.out HAT2.out (fun b hb => by have := hpl b hb; simp; omega))
    go_roundw
    case rel => exact ⟨k + 1, by omega, by go_num, by rw [HS0.out, HCC.out]; exact HOLz.out, by rw [HS0.out, HCC.out]; exact HOBz.out, HNE2, HBa2.out⟩
    case measure => simp [intOf]; omega
   ·have h1b : (v == 1) = false := by simpa using h1
    have hge : 0 ≤ v := by omega
    have HS0 := Lib.hid (lftN_step ks (i := k) (by rw [HV.out]; omega))
    have HSE := Lib.hid (selN_eq (ks := ks) (i := k) (by rw [HV.out]; omega) hlt)
    have HXF := Lib.hid (show xSel ks m (lftN ks k) = false by unfold xSel; rw [HSE.out, HV.out]; exact decide_eq_false h1)
    clear h1
    obtain ⟨b, off, rfl, hca⟩ := (HA.out.below HBa.out).2.2 (by omega)
    obtain ⟨g0, hr0⟩ := hca k hlt
    have HR := Lib.hid hr0
    obtain ⟨e1, e2, e3, e4, e5⟩ := HI.out k hlt
    have HE := Lib.hid (And.intro e1 (And.intro e2 (And.intro e3 (And.intro e4 e5))))
    obtain ⟨p, hp⟩ : ∃ p, pSel D qi ks m (lftN ks k) = p := ⟨_, rfl⟩
    have HP := Lib.hid hp
    have HP2 := Lib.hid (show ((D.z k qi 1 : Int) : Rat) / ((1000 : Int) : Rat) = p by rw [← hp]; unfold pSel pIt; rw [HSE.out])
    clear hca hr0 hp e1 e2 e3 e4 e5
    obtain ⟨cc, hcc⟩ : ∃ c, lftN ks k = c := ⟨_, rfl⟩
    have HCC := Lib.hid hcc
    have hcc60 : cc ≤ 60 := by have h := HCM.out; omega
    rw [hcc] at HOB HOL
    clear hcc
    have HB := Lib.hid (Below.refl wr0.heap.size wr0)
    have hs0 : wr0.heap.size ≤ wr0.heap.size := Nat.le_refl _
    go_wp2_with fail
    refine calls_name fun W1 hW => ?_
    have hs_W1 : wr0.heap.size ≤ W1.heap.size := by rw [← hW]; exact OmT
    replace HB := Lib.hid (show Below wr0.heap.size wr0 W1 by rw [← hW]; exact BlA)
    replace hN : N ≤ W1.heap.size := by rw [← hW]; exact OmT
    replace hs0 : wr0.heap.size ≤ W1.heap.size := by rw [← hW]; exact OmT
    clear hW
    have HOB1 := Lib.hid (HOB.out.below HB.out)
    have HOL1 := Lib.hid (HOL.out.below HB.out)
    have HR1 := Lib.hid (HR.out.below HB.out)
    refine (xmprob_any (N := N) _ _ _ _ _ _ _ _ HR1.out hN HE.out.1 qi HE.out.2.1 HE.out.2.2.1 HE.out.2.2.2.1 HE.out.2.2.2.2 p HP2.out).mono ?_
    rintro e wb ⟨rp, cp, rp2, cp2, rfl, hn, hn', hb⟩
    have hs_wb : W1.heap.size ≤ wb.heap.size := hb.size
    replace HB := Lib.hid (HB.out.trans (hb.mono hs0))
    replace hN : N ≤ wb.heap.size := Nat.le_trans hN hb.size
    replace hs0 : wr0.heap.size ≤ wb.heap.size := Nat.le_trans hs0 hb.size
    replace HOB1 := Lib.hid (HOB1.out.below hb)
    replace HOL1 := Lib.hid (HOL1.out.below hb)
    clear hb
    have HP1 := Lib.hid hn
    clear hn
    have HPB := Lib.hid hn'
    clear hn'
    go_upto_region 11 with fail
    refine region_name fun W2 hW => ?_
    have hs_W2 : wb.heap.size ≤ W2.heap.size := by rw [← hW]; exact OmT
    have HK_W2 := Lib.hid (show Kp N wb W2 by rw [← hW]; exact KpA)
    have HL_W2 := Lib.hid (show Below wb.heap.size wb W2 by rw [← hW]; exact BlA)
    have k_P_0 : W2.cell? ⟨wb.heap.size, 0, none⟩ = some (.bool (decide ((p).num < 0))) := by rw [← hW]; exact CeA
    have k_P_1 : W2.cell? ⟨wb.heap.size, 1, none⟩ = some (.slice rp (nlen (p).num.natAbs) cp) := by rw [← hW]; exact CeA
    have k_P_2 : W2.cell? ⟨wb.heap.size, 2, none⟩ = some (.slice rp2 (nlen (p).den) cp2) := by rw [← hW]; exact CeA
    have f_P : ∀ o, W2.frozen? ⟨wb.heap.size, o, none⟩ = false := by intro o; rw [← hW]; exact CeA
    have HX_P := Lib.hid (show Bn W2 (wb.heap.size) by rw [← hW]; exact KpA)
    replace HP1 := Lib.hid (HP1.out.keep HK_W2.out)
    replace HPB := Lib.hid (HPB.out.keep HK_W2.out)
    replace HB := Lib.hid (show Below wr0.heap.size wr0 W2 by rw [← hW]; exact BlA)
    replace hN : N ≤ W2.heap.size := by rw [← hW]; exact OmT
    replace hs0 : wr0.heap.size ≤ W2.heap.size := by rw [← hW]; exact OmT
    have hl_P : wb.heap.size < W2.heap.size := by rw [← hW]; exact OmT
    replace HOB1 := Lib.hid (HOB1.out.below HL_W2.out)
    replace HOL1 := Lib.hid (HOL1.out.below HL_W2.out)
    clear HL_W2
    clear hW HK_W2
    skip
    obtain ⟨xs, hown, hcl⟩ := HOL1.out
    have HO9 := Lib.hid hown
    have HC9 := Lib.hid hcl
    clear hown hcl
    go_upto_region 12 with (at_builtin; refine wpList_append_own_at _ rfl (.tmp 46) (.tmp 48) 38 rfl wa.heap.size 29 i1 (.agg #[.bool false, .slice none 0 0, .slice none 0 0]) 3 56 Tryz.underRats hi1 hy0 hy1 hy2 rfl (by decide) _ cc xs rfl (HO9.out.alloc _) ⟨W2.heap.size, 0, none⟩ 1 1 [.bool (decide ((p).num < 0)), .slice rp (nlen (p).num.natAbs) cp, .slice rp2 (nlen (p).den) cp2] rfl rfl (cell_three W2 _ _ _ _) (by intro u hu; simp at hu; rcases hu with rfl | rfl | rfl <;> rfl) (by unfold maxLen; omega) (by omega) (by simp; omega) ?_; intro v1 w1 ho1 hg1 _ hat1; have HG1 := Lib.hid hg1; have HAT1 := Lib.hid hat1; have HO1 := Lib.hid ho1; clear ho1 hg1 hat1)
    have KPa := Lib.hid (own_kp (N := N) (HO9.out.alloc (.cells #[.bool (decide ((p).num < 0)), .slice rp (nlen (p).num.natAbs) cp, .slice rp2 (nlen (p).den) cp2] 29)) (by omega) HG1.out)
    have KP1 := Lib.hid (((Kp.refl N W2).alloc (.cells #[.bool (decide ((p).num < 0)), .slice rp (nlen (p).num.natAbs) cp, .slice rp2 (nlen (p).den) cp2] 29)).trans KPa.out)
    have HBa1 := Lib.hid (own_belM (HO9.out.alloc (.cells #[.bool (decide ((p).num < 0)), .slice rp (nlen (p).num.natAbs) cp, .slice rp2 (nlen (p).den) cp2] 29)) ((HBa.out.trans (HB.out.mono hsa)).alloc (by omega) _) (by simp; omega) HG1.out)
    have HOLn := Lib.hid (show Ol N wa.heap.size w1 v1 (cc + 1) (pSel D qi ks m) from ⟨_, HO1.out, Cl.push (HC9.out.imp fun i v0 v1 v2 _ e => e.keep KP1.out) (show En N w1 (pSel D qi ks m) cc _ _ _ from ⟨rp, cp, rp2, cp2, by rw [show pSel D qi ks m cc = p by rw [← HCC.out]; exact HP.out], by rw [show pSel D qi ks m cc = p by rw [← HCC.out]; exact HP.out], by rw [show pSel D qi ks m cc = p by rw [← HCC.out]; exact HP.out], by rw [show pSel D qi ks m cc = p by rw [← HCC.out]; exact HP.out]; exact HP1.out.keep KP1.out, by rw [show pSel D qi ks m cc = p by rw [← HCC.out]; exact HP.out]; exact HPB.out.keep KP1.out⟩)⟩)
    have hrt := fun b hb => World.ownsRow.lt HOB.out b hb
    have HOBm := Lib.hid (show ObM wa.heap.size w1 _ cc (xSel ks m) from own_other (World.ownsRow.alloc HOB1.out (.cells #[.bool (decide ((p).num < 0)), .slice rp (nlen (p).num.natAbs) cp, .slice rp2 (nlen (p).den) cp2] 29)) HG1.out (fun b hb => HNE.out b hb))
    have HNE1 := Lib.hid (ne_step2 HNE.out HAT1.out (fun b hb => by have := hrt b hb; simp; omega))
    have hs1 : W2.heap.size ≤ w1.heap.size := KP1.out.1
    have hcell1 := cell_mono HCW.out HBa1.out
    clear HO1 KPa HOL HOL1 HOB1 k_P_0 k_P_1 k_P_2 f_P hcell HO9 HC9
    go_wp2_with (at_builtin; refine wpList_append_own_at _ rfl (.tmp 50) (.tmp 56) 37 rfl wa.heap.size 4 i0 (.bool false) 1 1 Tryz.underBoolsM hi hz0 hz1 hz2 rfl (by decide) _ cc ((List.range cc).map fun i => .bool (xSel ks m i)) rfl (World.ownsRow.alloc HOBm.out _) ⟨w1.heap.size, 0, none⟩ 1 1 [.bool false] (by first | rfl | simp) rfl (cell_one_new _ _ _) (by intro u hu; simp at hu; subst hu; rfl) (by unfold maxLen; omega) (by omega) (by simp; omega) ?_; intro v2 w2 ho2 hg2 _ hat2; have HG2 := Lib.hid hg2; have HAT2 := Lib.hid hat2; have HO2 := Lib.hid ho2; clear ho2 hg2 hat2)
    have KPb := Lib.hid (own_kpM (N := N) (World.ownsRow.alloc HOBm.out (.cells #[.bool false] 4)) (by omega) HG2.out)
    have HBa2 := Lib.hid (own_belM (World.ownsRow.alloc HOBm.out (.cells #[.bool false] 4)) (HBa1.out.alloc (by omega) _) (by simp; omega) HG2.out)
    have HOBz := Lib.hid (ObM.push (show xSel ks m cc = false by rw [← HCC.out]; exact HXF.out) HO2.out)
    have HOLz := Lib.hid ((HOLn.out.below (bel1 w1 (.cells #[.bool false] 4))).other HG2.out (fun b hb hh => HNE1.out b hh hb) KPb.out)
    have hpl := HOLn.out.lt
    have HNE2 := Lib.hid (ne_step HNE1.out HAT2.out (fun b hb => by have := hpl b hb; simp; omega))
    go_roundw
    case rel => exact ⟨k + 1, by omega, by go_num, by rw [HS0.out, HCC.out]; exact HOLz.out, by rw [HS0.out, HCC.out]; exact HOBz.out, HNE2, HBa2.out⟩
    case measure => simp [intOf]; omega
  ·obtain rfl : m = k := by omega
   rw [HCM.out] at HOB HOL
   obtain ⟨xa, xc, rfl, hsl⟩ := HOB.out.sl
   obtain ⟨xs, hown, hcl⟩ := HOL.out
   obtain ⟨pa, pc, rfl, hrn⟩ := Cl.rn hown hcl
   have HSl := Lib.hid hsl
   have HRn := Lib.hid hrn
   have HRs := Lib.hid (hrn.rs 1 (fun i hi => (HSL.out i hi).2))
   clear hsl hown hcl hrn HOB HOL HNE
   have hl_R' : w.heap.size < wr0.heap.size := Nat.lt_of_lt_of_le hl_R HBa.out.size
   have k_R_0' : wr0.cell? ⟨w.heap.size, 0, none⟩ = some (.bool false) := (HBa.out.cell (p := ⟨w.heap.size, 0, none⟩) hl_R).trans k_R_0
   have k_R_1' : wr0.cell? ⟨w.heap.size, 1, none⟩ = some (.slice none 0 0) := (HBa.out.cell (p := ⟨w.heap.size, 1, none⟩) hl_R).trans k_R_1
   have k_R_2' : wr0.cell? ⟨w.heap.size, 2, none⟩ = some (.slice none 0 0) := (HBa.out.cell (p := ⟨w.heap.size, 2, none⟩) hl_R).trans k_R_2
   have f_R' : ∀ o, wr0.frozen? ⟨w.heap.size, o, none⟩ = false := fun o => (HBa.out.frozen (p := ⟨w.heap.size, o, none⟩) hl_R).trans (f_R o)
   have HX_R' := Lib.hid (HX_R.out.below HBa.out)
   clear hl_R f_R HX_R k_R_0 k_R_1 k_R_2
   have hl_R := hl_R'
   have f_R := f_R'
   have HX_R := HX_R'
   have k_R_0 := k_R_0'
   have k_R_1 := k_R_1'
   have k_R_2 := k_R_2'
   clear hl_R' f_R' HX_R' k_R_0' k_R_1' k_R_2'
   have HB' := Lib.hid (HB.out.trans (HBa.out.mono hs0))
   have hs0' : w.heap.size ≤ wr0.heap.size := Nat.le_trans hs0 hsa
   clear HB hs0
   have HB := HB'
   have hs0 := hs0'
   clear HB' hs0'
   go_wp2_with fail
   refine (xorder_err _ _ _ 5 (by decide) _ (xcheck_long31 _ _ _ _ HRs.out.1 HRs.out.2.1 (by omega))).mono ?_
   rintro e wo ⟨rfl, hb⟩
   have hs_wo : wr0.heap.size ≤ wo.heap.size := hb.size
   replace k_R_0 : wo.cell? ⟨w.heap.size, 0, none⟩ = some (.bool false) := (hb.cell (p := ⟨w.heap.size, 0, none⟩) hl_R).trans k_R_0
   replace k_R_1 : wo.cell? ⟨w.heap.size, 1, none⟩ = some (.slice none 0 0) := (hb.cell (p := ⟨w.heap.size, 1, none⟩) hl_R).trans k_R_1
   replace k_R_2 : wo.cell? ⟨w.heap.size, 2, none⟩ = some (.slice none 0 0) := (hb.cell (p := ⟨w.heap.size, 2, none⟩) hl_R).trans k_R_2
   replace f_R : ∀ o, wo.frozen? ⟨w.heap.size, o, none⟩ = false := fun o => (hb.frozen (p := ⟨w.heap.size, o, none⟩) hl_R).trans (f_R o)
   replace HX_R := Lib.hid (HX_R.out.below hb)
   replace HB := Lib.hid (HB.out.trans (hb.mono hs0))
   replace hN : N ≤ wo.heap.size := Nat.le_trans hN hb.size
   replace hs0 : w.heap.size ≤ wo.heap.size := Nat.le_trans hs0 hb.size
   replace hl_R : w.heap.size < wo.heap.size := Nat.lt_of_lt_of_le hl_R hb.size
   replace HSl := Lib.hid (HSl.out.below hb)
   replace HRn := Lib.hid (HRn.out.below hb)
   clear hb
   go_wp2_with fail
   refine (xwhole_any (N := N) 0 _ hN (by omega) (by omega) p HP0.out).mono ?_
   rintro e wz ⟨rz, cz, rz2, cz2, rfl, hn, hn', hb⟩
   have hs_wz : wo.heap.size ≤ wz.heap.size := hb.size
   replace k_R_0 : wz.cell? ⟨w.heap.size, 0, none⟩ = some (.bool false) := (hb.cell (p := ⟨w.heap.size, 0, none⟩) hl_R).trans k_R_0
   replace k_R_1 : wz.cell? ⟨w.heap.size, 1, none⟩ = some (.slice none 0 0) := (hb.cell (p := ⟨w.heap.size, 1, none⟩) hl_R).trans k_R_1
   replace k_R_2 : wz.cell? ⟨w.heap.size, 2, none⟩ = some (.slice none 0 0) := (hb.cell (p := ⟨w.heap.size, 2, none⟩) hl_R).trans k_R_2
   replace f_R : ∀ o, wz.frozen? ⟨w.heap.size, o, none⟩ = false := fun o => (hb.frozen (p := ⟨w.heap.size, o, none⟩) hl_R).trans (f_R o)
   replace HX_R := Lib.hid (HX_R.out.below hb)
   replace HB := Lib.hid (HB.out.trans (hb.mono hs0))
   replace hN : N ≤ wz.heap.size := Nat.le_trans hN hb.size
   replace hs0 : w.heap.size ≤ wz.heap.size := Nat.le_trans hs0 hb.size
   replace hl_R : w.heap.size < wz.heap.size := Nat.lt_of_lt_of_le hl_R hb.size
   replace HSl := Lib.hid (HSl.out.below hb)
   replace HRn := Lib.hid (HRn.out.below hb)
   clear hb
   have HZ1 := Lib.hid hn
   clear hn
   have HZ2 := Lib.hid hn'
   clear hn'
   go_wp2_with fail
   refine bodyPost_ret (v := .tuple #[.agg #[.bool (decide ((p).num < 0)), .slice rz (nlen (p).num.natAbs) cz, .slice rz2 (nlen (p).den) cz2], .int .i64 5]) (by simp [results, Tryz.results5, go_sem, k_R_0, k_R_1, k_R_2]) rfl ⟨_, _, _, _, rfl, HZ1.out.keep ?_, HZ2.out.keep ?_, ?_⟩
   all_goals exact KBA
set_option maxHeartbeats 8000000 in
set_option maxRecDepth 20000 in
theorem xperson_ok {N : Nat} (am ak : Option Addr) (m cm ck : Nat) (D : MdD) (ks : Nat → Int) (qi : Nat) (w : World) (hN : N ≤ w.heap.size) (h : Ms w am m cm D) (hk : Is w ak m ck ks) (hm0 : chkM D m m ks qi = 0) (hl20 : lftN ks m ≤ 20) (d : Nat → Nat) (hpm : Prm (lftN ks m) d) (hst : Srt (keyT (gtQ (pSel D qi ks m))) 0 (lftN ks m) d) (pv : Rat) (hpv : upQ (nlQ (fun j => pSel D qi ks m (d j)) (lftN ks m)) (lftN ks m * lftN ks m / 4 + 1) (erN (fun j => xSel ks m (d j)) (lftN ks m)) = pv) :
  Calls Tryz.prog 5 #[.slice am m cm, .slice ak m ck, .int .i64 qi] w (RcPost N w pv 0) := by
 have HA := Lib.hid h
 have HK := Lib.hid hk
 have kc := hk.1
 have km := hk.2.1
 unfold maxLen at km
 obtain ⟨m60, hv, h2, _, hm1, _, hq, hks⟩ := chkM_zero hm0
 have HC0 := Lib.hid hm0
 have HI := Lib.hid (fun i (hi : i < m) => itm_ok (qi := qi) hv h2 hq hi)
 have HSL := Lib.hid (sel_ok (ks := ks) hv h2 hq)
 have HCH := Lib.hid (show chkF (pSel D qi ks m) (lftN ks m) = 0 by rw [sel_chk hv h2 hq, if_neg (by omega)])
 have HPM := Lib.hid hpm
 have HST := Lib.hid hst
 have HPV := Lib.hid hpv
 clear hpm hst hpv
 clear h hk hm0 hv h2 hq hks
 obtain ⟨i0, hi, hz0, hz1, hz2⟩ := info_parts Tryz.infoBoolM
 obtain ⟨i1, hi1, hy0, hy1, hy2⟩ := info_parts Tryz.infoRat
 obtain ⟨c, hcm⟩ : ∃ c, lftN ks m = c := ⟨_, rfl⟩
 have hl60 : c ≤ 60 := by have := lftN_le ks m; omega
 rw [hcm] at hl20 HSL HCH HPM HST HPV
 have HCM := Lib.hid hcm
 clear hcm
 have hN0 := hN
 have HB := Lib.hid (Below.refl w.heap.size w)
 go_enter Tryz.func5, Tryz.ntmps5
 go_wp2_with fail
 refine calls_name fun W0 hW => ?_
 have hs_W0 : w.heap.size ≤ W0.heap.size := by rw [← hW]; exact OmT
 have HL_W0 := Lib.hid (show Below w.heap.size w W0 by rw [← hW]; exact BlA)
 have k_R_0 : W0.cell? ⟨w.heap.size, 0, none⟩ = some (.bool false) := by rw [← hW]; exact CeA
 have k_R_1 : W0.cell? ⟨w.heap.size, 1, none⟩ = some (.slice none 0 0) := by rw [← hW]; exact CeA
 have k_R_2 : W0.cell? ⟨w.heap.size, 2, none⟩ = some (.slice none 0 0) := by rw [← hW]; exact CeA
 have f_R : ∀ o, W0.frozen? ⟨w.heap.size, o, none⟩ = false := by intro o; rw [← hW]; exact CeA
 have HX_R := Lib.hid (show Bn W0 (w.heap.size) by rw [← hW]; exact KpA)
 replace HB := Lib.hid (show Below w.heap.size w W0 by rw [← hW]; exact BlA)
 replace hN : N ≤ W0.heap.size := by rw [← hW]; exact OmT
 have hs0 : w.heap.size ≤ W0.heap.size := by rw [← hW]; exact OmT
 have hl_R : w.heap.size < W0.heap.size := by rw [← hW]; exact OmT
 replace HA := Lib.hid (HA.out.below HL_W0.out)
 replace HK := Lib.hid (HK.out.below HL_W0.out)
 clear HL_W0
 clear hW
 refine (models_any _ _ m _ m _ D ks _ _ HA.out HK.out).mono ?_
 rw [HC0.out]
 rintro e wa ⟨rfl, hb⟩
 have hs_wa : W0.heap.size ≤ wa.heap.size := hb.size
 replace k_R_0 : wa.cell? ⟨w.heap.size, 0, none⟩ = some (.bool false) := (hb.cell (p := ⟨w.heap.size, 0, none⟩) hl_R).trans k_R_0
 replace k_R_1 : wa.cell? ⟨w.heap.size, 1, none⟩ = some (.slice none 0 0) := (hb.cell (p := ⟨w.heap.size, 1, none⟩) hl_R).trans k_R_1
 replace k_R_2 : wa.cell? ⟨w.heap.size, 2, none⟩ = some (.slice none 0 0) := (hb.cell (p := ⟨w.heap.size, 2, none⟩) hl_R).trans k_R_2
 replace f_R : ∀ o, wa.frozen? ⟨w.heap.size, o, none⟩ = false := fun o => (hb.frozen (p := ⟨w.heap.size, o, none⟩) hl_R).trans (f_R o)
 replace HX_R := Lib.hid (HX_R.out.below hb)
 replace HB := Lib.hid (HB.out.trans (hb.mono hs0))
 replace hN : N ≤ wa.heap.size := Nat.le_trans hN hb.size
 replace hs0 : w.heap.size ≤ wa.heap.size := Nat.le_trans hs0 hb.size
 replace hl_R : w.heap.size < wa.heap.size := Nat.lt_of_lt_of_le hl_R hb.size
 replace HA := Lib.hid (HA.out.below hb)
 replace HK := Lib.hid (HK.out.below hb)
 clear hb
 go_wp2_with fail
 go_loopw [9, 10, 11] (fun pl rt i wr => ∃ k : Nat, k ≤ m ∧ i = .int .i64 k ∧ Ol N wa.heap.size wr pl (lftN ks k) (pSel D qi ks m) ∧ ObM wa.heap.size wr rt (lftN ks k) (xSel ks m) ∧ Hid (∀ b, rt.ownBlock = some b → pl.ownBlock ≠ some b) ∧ Below wa.heap.size wa wr) (fun _ _ i _ => m - (intOf i).toNat)
 case atStart => exact ⟨0, Nat.zero_le _, rfl, Ol.nil _ _ _ _, ⟨rfl, .inl ⟨rfl, rfl⟩⟩, Lib.hid (fun b h => by simp [Value.ownBlock] at h), Below.refl _ _⟩
 case round =>
  obtain ⟨k, hkm, rfl, hol, hob, HNE, hbel⟩ := hrel
  obtain ⟨wr0, rfl⟩ : ∃ x : World, x = wr := ⟨_, rfl⟩
  have HOB := Lib.hid hob
  have HOL := Lib.hid hol
  have HBa := Lib.hid hbel
  have hsa : wa.heap.size ≤ wr0.heap.size := hbel.size
  clear hN
  have hN : N ≤ wr0.heap.size := by omega
  clear hob hol hbel
  have hck := lftN_mono ks hkm
  by_cases hlt : k < m
  ·obtain ⟨bk, ok, rfl, hc2⟩ := HK.out.2.2 (by omega)
   have hcw := hc2 k hlt
   obtain ⟨v, hv⟩ : ∃ v, ks k = v := ⟨_, rfl⟩
   rw [hv] at hcw
   have HCW := Lib.hid hcw
   have hcell := cell_mono hcw HBa.out
   have HV := Lib.hid hv
   have hkz : (k : Int) < (m : Int) := by omega
   have hk0 : (0 : Int) ≤ (k : Int) := by omega
   clear hc2 hv hcw
   by_cases hneg : v < 0
   ·have HS0 := Lib.hid (lftN_skip ks (i := k) (by rw [HV.out]; omega))
    go_wp2_with fail
    go_roundw
    case rel => exact ⟨k + 1, by omega, by go_num, by rw [HS0.out]; exact HOL.out, by rw [HS0.out]; exact HOB.out, HNE, HBa.out⟩
    case measure => simp [intOf]; omega
   by_cases h1 : v = 1
   ·have h1b : (v == 1) = true := by simpa using h1
    have hge : 0 ≤ v := by omega
    have HS0 := Lib.hid (lftN_step ks (i := k) (by rw [HV.out]; omega))
    have HSE := Lib.hid (selN_eq (ks := ks) (i := k) (by rw [HV.out]; omega) hlt)
    have HXF := Lib.hid (show xSel ks m (lftN ks k) = true by unfold xSel; rw [HSE.out, HV.out]; exact decide_eq_true h1)
    clear h1
    obtain ⟨b, off, rfl, hca⟩ := (HA.out.below HBa.out).2.2 (by omega)
    obtain ⟨g0, hr0⟩ := hca k hlt
    have HR := Lib.hid hr0
    obtain ⟨e1, e2, e3, e4, e5⟩ := HI.out k hlt
    have HE := Lib.hid (And.intro e1 (And.intro e2 (And.intro e3 (And.intro e4 e5))))
    obtain ⟨p, hp⟩ : ∃ p, pSel D qi ks m (lftN ks k) = p := ⟨_, rfl⟩
    have HP := Lib.hid hp
    have HP2 := Lib.hid (show ((D.z k qi 1 : Int) : Rat) / ((1000 : Int) : Rat) = p by rw [← hp]; unfold pSel pIt; rw [HSE.out])
    clear hca hr0 hp e1 e2 e3 e4 e5
    obtain ⟨cc, hcc⟩ : ∃ c, lftN ks k = c := ⟨_, rfl⟩
    have HCC := Lib.hid hcc
    have hcc60 : cc ≤ 60 := by have h := HCM.out; omega
    rw [hcc] at HOB HOL
    clear hcc
    have HB := Lib.hid (Below.refl wr0.heap.size wr0)
    have hs0 : wr0.heap.size ≤ wr0.heap.size := Nat.le_refl _
    go_wp2_with fail
    refine calls_name fun W1 hW => ?_
    have hs_W1 : wr0.heap.size ≤ W1.heap.size := by rw [← hW]; exact OmT
    replace HB := Lib.hid (show Below wr0.heap.size wr0 W1 by rw [← hW]; exact BlA)
    replace hN : N ≤ W1.heap.size := by rw [← hW]; exact OmT
    replace hs0 : wr0.heap.size ≤ W1.heap.size := by rw [← hW]; exact OmT
    clear hW
    have HOB1 := Lib.hid (HOB.out.below HB.out)
    have HOL1 := Lib.hid (HOL.out.below HB.out)
    have HR1 := Lib.hid (HR.out.below HB.out)
    refine (xmprob_any (N := N) _ _ _ _ _ _ _ _ HR1.out hN HE.out.1 qi HE.out.2.1 HE.out.2.2.1 HE.out.2.2.2.1 HE.out.2.2.2.2 p HP2.out).mono ?_
    rintro e wb ⟨rp, cp, rp2, cp2, rfl, hn, hn', hb⟩
    have hs_wb : W1.heap.size ≤ wb.heap.size := hb.size
    replace HB := Lib.hid (HB.out.trans (hb.mono hs0))
    replace hN : N ≤ wb.heap.size := Nat.le_trans hN hb.size
    replace hs0 : wr0.heap.size ≤ wb.heap.size := Nat.le_trans hs0 hb.size
    replace HOB1 := Lib.hid (HOB1.out.below hb)
    replace HOL1 := Lib.hid (HOL1.out.below hb)
    clear hb
    have HP1 := Lib.hid hn
    clear hn
    have HPB := Lib.hid hn'
    clear hn'
    go_upto_region 11 with fail
    refine region_name fun W2 hW => ?_
    have hs_W2 : wb.heap.size ≤ W2.heap.size := by rw [← hW]; exact OmT
    have HK_W2 := Lib.hid (show Kp N wb W2 by rw [← hW]; exact KpA)
    have HL_W2 := Lib.hid (show Below wb.heap.size wb W2 by rw [← hW]; exact BlA)
    have k_P_0 : W2.cell? ⟨wb.heap.size, 0, none⟩ = some (.bool (decide ((p).num < 0))) := by rw [← hW]; exact CeA
    have k_P_1 : W2.cell? ⟨wb.heap.size, 1, none⟩ = some (.slice rp (nlen (p).num.natAbs) cp) := by rw [← hW]; exact CeA
    have k_P_2 : W2.cell? ⟨wb.heap.size, 2, none⟩ = some (.slice rp2 (nlen (p).den) cp2) := by rw [← hW]; exact CeA
    have f_P : ∀ o, W2.frozen? ⟨wb.heap.size, o, none⟩ = false := by intro o; rw [← hW]; exact CeA
    have HX_P := Lib.hid (show Bn W2 (wb.heap.size) by rw [← hW]; exact KpA)
    replace HP1 := Lib.hid (HP1.out.keep HK_W2.out)
    replace HPB := Lib.hid (HPB.out.keep HK_W2.out)
    replace HB := Lib.hid (show Below wr0.heap.size wr0 W2 by rw [← hW]; exact BlA)
    replace hN : N ≤ W2.heap.size := by rw [← hW]; exact OmT
    replace hs0 : wr0.heap.size ≤ W2.heap.size := by rw [← hW]; exact OmT
    have hl_P : wb.heap.size < W2.heap.size := by rw [← hW]; exact OmT
    replace HOB1 := Lib.hid (HOB1.out.below HL_W2.out)
    replace HOL1 := Lib.hid (HOL1.out.below HL_W2.out)
    clear HL_W2
    clear hW HK_W2
    skip
    obtain ⟨xs, hown, hcl⟩ := HOL1.out
    have HO9 := Lib.hid hown
    have HC9 := Lib.hid hcl
    clear hown hcl
    go_upto_region 12 with (at_builtin; refine wpList_append_own_at _ rfl (.tmp 46) (.tmp 48) 38 rfl wa.heap.size 29 i1 (.agg #[.bool false, .slice none 0 0, .slice none 0 0]) 3 56 Tryz.underRats hi1 hy0 hy1 hy2 rfl (by decide) _ cc xs rfl (HO9.out.alloc _) ⟨W2.heap.size, 0, none⟩ 1 1 [.bool (decide ((p).num < 0)), .slice rp (nlen (p).num.natAbs) cp, .slice rp2 (nlen (p).den) cp2] rfl rfl (cell_three W2 _ _ _ _) (by intro u hu; simp at hu; rcases hu with rfl | rfl | rfl <;> rfl) (by unfold maxLen; omega) (by omega) (by simp; omega) ?_; intro v1 w1 ho1 hg1 _ hat1; have HG1 := Lib.hid hg1; have HAT1 := Lib.hid hat1; have HO1 := Lib.hid ho1; clear ho1 hg1 hat1)
    have KPa := Lib.hid (own_kp (N := N) (HO9.out.alloc (.cells #[.bool (decide ((p).num < 0)), .slice rp (nlen (p).num.natAbs) cp, .slice rp2 (nlen (p).den) cp2] 29)) (by omega) HG1.out)
    have KP1 := Lib.hid (((Kp.refl N W2).alloc (.cells #[.bool (decide ((p).num < 0)), .slice rp (nlen (p).num.natAbs) cp, .slice rp2 (nlen (p).den) cp2] 29)).trans KPa.out)
    have HBa1 := Lib.hid (own_belM (HO9.out.alloc (.cells #[.bool (decide ((p).num < 0)), .slice rp (nlen (p).num.natAbs) cp, .slice rp2 (nlen (p).den) cp2] 29)) ((HBa.out.trans (HB.out.mono hsa)).alloc (by omega) _) (by simp; omega) HG1.out)
    have HOLn := Lib.hid (show Ol N wa.heap.size w1 v1 (cc + 1) (pSel D qi ks m) from ⟨_, HO1.out, Cl.push (HC9.out.imp fun i v0 v1 v2 _ e => e.keep KP1.out) (show En N w1 (pSel D qi ks m) cc _ _ _ from ⟨rp, cp, rp2, cp2, by rw [show pSel D qi ks m cc = p by rw [← HCC.out]; exact HP.out], by rw [show pSel D qi ks m cc = p by rw [← HCC.out]; exact HP.out], by rw [show pSel D qi ks m cc = p by rw [← HCC.out]; exact HP.out], by rw [show pSel D qi ks m cc = p by rw [← HCC.out]; exact HP.out]; exact HP1.out.keep KP1.out, by rw [show pSel D qi ks m cc = p by rw [← HCC.out]; exact HP.out]; exact HPB.out.keep KP1.out⟩)⟩)
    have hrt := fun b hb => World.ownsRow.lt HOB.out b hb
    have HOBm := Lib.hid (show ObM wa.heap.size w1 _ cc (xSel ks m) from own_other (World.ownsRow.alloc HOB1.out (.cells #[.bool (decide ((p).num < 0)), .slice rp (nlen (p).num.natAbs) cp, .slice rp2 (nlen (p).den) cp2] 29)) HG1.out (fun b hb => HNE.out b hb))
    have HNE1 := Lib.hid (ne_step2 HNE.out HAT1.out (fun b hb => by have := hrt b hb; simp; omega))
    have hs1 : W2.heap.size ≤ w1.heap.size := KP1.out.1
    have hcell1 := cell_mono HCW.out HBa1.out
    clear HO1 KPa HOL HOL1 HOB1 k_P_0 k_P_1 k_P_2 f_P hcell HO9 HC9
    go_wp2_with (at_builtin; refine wpList_append_own_at _ rfl (.tmp 50) (.tmp 56) 37 rfl wa.heap.size 4 i0 (.bool false) 1 1 Tryz.underBoolsM hi hz0 hz1 hz2 rfl (by decide) _ cc ((List.range cc).map fun i => .bool (xSel ks m i)) rfl (World.ownsRow.alloc HOBm.out _) ⟨w1.heap.size, 0, none⟩ 1 1 [.bool true] (by first | rfl | simp) rfl (cell_one_new _ _ _) (by intro u hu; simp at hu; subst hu; rfl) (by unfold maxLen; omega) (by omega) (by simp; omega) ?_; intro v2 w2 ho2 hg2 _ hat2; have HG2 := Lib.hid hg2; have HAT2 := Lib.hid hat2; have HO2 := Lib.hid ho2; clear ho2 hg2 hat2)
    have KPb := Lib.hid (own_kpM (N := N) (World.ownsRow.alloc HOBm.out (.cells #[.bool true] 4)) (by omega) HG2.out)
    have HBa2 := Lib.hid (own_belM (World.ownsRow.alloc HOBm.out (.cells #[.bool true] 4)) (HBa1.out.alloc (by omega) _) (by simp; omega) HG2.out)
    have HOBz := Lib.hid (ObM.push (show xSel ks m cc = true by rw [← HCC.out]; exact HXF.out) HO2.out)
    have HOLz := Lib.hid ((HOLn.out.below (bel1 w1 (.cells #[.bool true] 4))).other HG2.out (fun b hb hh => HNE1.out b hh hb) KPb.out)
    have hpl := HOLn.out.lt
    have HNE2 := Lib.hid (ne_step HNE1.out HAT2.out (fun b hb => by have := hpl b hb; simp; omega))
    go_roundw
    case rel => exact ⟨k + 1, by omega, by go_num, by rw [HS0.out, HCC.out]; exact HOLz.out, by rw [HS0.out, HCC.out]; exact HOBz.out, HNE2, HBa2.out⟩
    case measure => simp [intOf]; omega
   ·have h1b : (v == 1) = false := by simpa using h1
    have hge : 0 ≤ v := by omega
    have HS0 := Lib.hid (lftN_step ks (i := k) (by rw [HV.out]; omega))
    have HSE := Lib.hid (selN_eq (ks := ks) (i := k) (by rw [HV.out]; omega) hlt)
    have HXF := Lib.hid (show xSel ks m (lftN ks k) = false by unfold xSel; rw [HSE.out, HV.out]; exact decide_eq_false h1)
    clear h1
    obtain ⟨b, off, rfl, hca⟩ := (HA.out.below HBa.out).2.2 (by omega)
    obtain ⟨g0, hr0⟩ := hca k hlt
    have HR := Lib.hid hr0
    obtain ⟨e1, e2, e3, e4, e5⟩ := HI.out k hlt
    have HE := Lib.hid (And.intro e1 (And.intro e2 (And.intro e3 (And.intro e4 e5))))
    obtain ⟨p, hp⟩ : ∃ p, pSel D qi ks m (lftN ks k) = p := ⟨_, rfl⟩
    have HP := Lib.hid hp
    have HP2 := Lib.hid (show ((D.z k qi 1 : Int) : Rat) / ((1000 : Int) : Rat) = p by rw [← hp]; unfold pSel pIt; rw [HSE.out])
    clear hca hr0 hp e1 e2 e3 e4 e5
    obtain ⟨cc, hcc⟩ : ∃ c, lftN ks k = c := ⟨_, rfl⟩
    have HCC := Lib.hid hcc
    have hcc60 : cc ≤ 60 := by have h := HCM.out; omega
    rw [hcc] at HOB HOL
    clear hcc
    have HB := Lib.hid (Below.refl wr0.heap.size wr0)
    have hs0 : wr0.heap.size ≤ wr0.heap.size := Nat.le_refl _
    go_wp2_with fail
    refine calls_name fun W1 hW => ?_
    have hs_W1 : wr0.heap.size ≤ W1.heap.size := by rw [← hW]; exact OmT
    replace HB := Lib.hid (show Below wr0.heap.size wr0 W1 by rw [← hW]; exact BlA)
    replace hN : N ≤ W1.heap.size := by rw [← hW]; exact OmT
    replace hs0 : wr0.heap.size ≤ W1.heap.size := by rw [← hW]; exact OmT
    clear hW
    have HOB1 := Lib.hid (HOB.out.below HB.out)
    have HOL1 := Lib.hid (HOL.out.below HB.out)
    have HR1 := Lib.hid (HR.out.below HB.out)
    refine (xmprob_any (N := N) _ _ _ _ _ _ _ _ HR1.out hN HE.out.1 qi HE.out.2.1 HE.out.2.2.1 HE.out.2.2.2.1 HE.out.2.2.2.2 p HP2.out).mono ?_
    rintro e wb ⟨rp, cp, rp2, cp2, rfl, hn, hn', hb⟩
    have hs_wb : W1.heap.size ≤ wb.heap.size := hb.size
    replace HB := Lib.hid (HB.out.trans (hb.mono hs0))
    replace hN : N ≤ wb.heap.size := Nat.le_trans hN hb.size
    replace hs0 : wr0.heap.size ≤ wb.heap.size := Nat.le_trans hs0 hb.size
    replace HOB1 := Lib.hid (HOB1.out.below hb)
    replace HOL1 := Lib.hid (HOL1.out.below hb)
    clear hb
    have HP1 := Lib.hid hn
    clear hn
    have HPB := Lib.hid hn'
    clear hn'
    go_upto_region 11 with fail
    refine region_name fun W2 hW => ?_
    have hs_W2 : wb.heap.size ≤ W2.heap.size := by rw [← hW]; exact OmT
    have HK_W2 := Lib.hid (show Kp N wb W2 by rw [← hW]; exact KpA)
    have HL_W2 := Lib.hid (show Below wb.heap.size wb W2 by rw [← hW]; exact BlA)
    have k_P_0 : W2.cell? ⟨wb.heap.size, 0, none⟩ = some (.bool (decide ((p).num < 0))) := by rw [← hW]; exact CeA
    have k_P_1 : W2.cell? ⟨wb.heap.size, 1, none⟩ = some (.slice rp (nlen (p).num.natAbs) cp) := by rw [← hW]; exact CeA
    have k_P_2 : W2.cell? ⟨wb.heap.size, 2, none⟩ = some (.slice rp2 (nlen (p).den) cp2) := by rw [← hW]; exact CeA
    have f_P : ∀ o, W2.frozen? ⟨wb.heap.size, o, none⟩ = false := by intro o; rw [← hW]; exact CeA
    have HX_P := Lib.hid (show Bn W2 (wb.heap.size) by rw [← hW]; exact KpA)
    replace HP1 := Lib.hid (HP1.out.keep HK_W2.out)
    replace HPB := Lib.hid (HPB.out.keep HK_W2.out)
    replace HB := Lib.hid (show Below wr0.heap.size wr0 W2 by rw [← hW]; exact BlA)
    replace hN : N ≤ W2.heap.size := by rw [← hW]; exact OmT
    replace hs0 : wr0.heap.size ≤ W2.heap.size := by rw [← hW]; exact OmT
    have hl_P : wb.heap.size < W2.heap.size := by rw [← hW]; exact OmT
    replace HOB1 := Lib.hid (HOB1.out.below HL_W2.out)
    replace HOL1 := Lib.hid (HOL1.out.below HL_W2.out)
    clear HL_W2
    clear hW HK_W2
    skip
    obtain ⟨xs, hown, hcl⟩ := HOL1.out
    have HO9 := Lib.hid hown
    have HC9 := Lib.hid hcl
    clear hown hcl
    go_upto_region 12 with (at_builtin; refine wpList_append_own_at _ rfl (.tmp 46) (.tmp 48) 38 rfl wa.heap.size 29 i1 (.agg #[.bool false, .slice none 0 0, .slice none 0 0]) 3 56 Tryz.underRats hi1 hy0 hy1 hy2 rfl (by decide) _ cc xs rfl (HO9.out.alloc _) ⟨W2.heap.size, 0, none⟩ 1 1 [.bool (decide ((p).num < 0)), .slice rp (nlen (p).num.natAbs) cp, .slice rp2 (nlen (p).den) cp2] rfl rfl (cell_three W2 _ _ _ _) (by intro u hu; simp at hu; rcases hu with rfl | rfl | rfl <;> rfl) (by unfold maxLen; omega) (by omega) (by simp; omega) ?_; intro v1 w1 ho1 hg1 _ hat1; have HG1 := Lib.hid hg1; have HAT1 := Lib.hid hat1; have HO1 := Lib.hid ho1; clear ho1 hg1 hat1)
    have KPa := Lib.hid (own_kp (N := N) (HO9.out.alloc (.cells #[.bool (decide ((p).num < 0)), .slice rp (nlen (p).num.natAbs) cp, .slice rp2 (nlen (p).den) cp2] 29)) (by omega) HG1.out)
    have KP1 := Lib.hid (((Kp.refl N W2).alloc (.cells #[.bool (decide ((p).num < 0)), .slice rp (nlen (p).num.natAbs) cp, .slice rp2 (nlen (p).den) cp2] 29)).trans KPa.out)
    have HBa1 := Lib.hid (own_belM (HO9.out.alloc (.cells #[.bool (decide ((p).num < 0)), .slice rp (nlen (p).num.natAbs) cp, .slice rp2 (nlen (p).den) cp2] 29)) ((HBa.out.trans (HB.out.mono hsa)).alloc (by omega) _) (by simp; omega) HG1.out)
    have HOLn := Lib.hid (show Ol N wa.heap.size w1 v1 (cc + 1) (pSel D qi ks m) from ⟨_, HO1.out, Cl.push (HC9.out.imp fun i v0 v1 v2 _ e => e.keep KP1.out) (show En N w1 (pSel D qi ks m) cc _ _ _ from ⟨rp, cp, rp2, cp2, by rw [show pSel D qi ks m cc = p by rw [← HCC.out]; exact HP.out], by rw [show pSel D qi ks m cc = p by rw [← HCC.out]; exact HP.out], by rw [show pSel D qi ks m cc = p by rw [← HCC.out]; exact HP.out], by rw [show pSel D qi ks m cc = p by rw [← HCC.out]; exact HP.out]; exact HP1.out.keep KP1.out, by rw [show pSel D qi ks m cc = p by rw [← HCC.out]; exact HP.out]; exact HPB.out.keep KP1.out⟩)⟩)
    have hrt := fun b hb => World.ownsRow.lt HOB.out b hb
    have HOBm := Lib.hid (show ObM wa.heap.size w1 _ cc (xSel ks m) from own_other (World.ownsRow.alloc HOB1.out (.cells #[.bool (decide ((p).num < 0)), .slice rp (nlen (p).num.natAbs) cp, .slice rp2 (nlen (p).den) cp2] 29)) HG1.out (fun b hb => HNE.out b hb))
    have HNE1 := Lib.hid (ne_step2 HNE.out HAT1.out (fun b hb => by have := hrt b hb; simp; omega))
    have hs1 : W2.heap.size ≤ w1.heap.size := KP1.out.1
    have hcell1 := cell_mono HCW.out HBa1.out
    clear HO1 KPa HOL HOL1 HOB1 k_P_0 k_P_1 k_P_2 f_P hcell HO9 HC9
    go_wp2_with (at_builtin; refine wpList_append_own_at _ rfl (.tmp 50) (.tmp 56) 37 rfl wa.heap.size 4 i0 (.bool false) 1 1 Tryz.underBoolsM hi hz0 hz1 hz2 rfl (by decide) _ cc ((List.range cc).map fun i => .bool (xSel ks m i)) rfl (World.ownsRow.alloc HOBm.out _) ⟨w1.heap.size, 0, none⟩ 1 1 [.bool false] (by first | rfl | simp) rfl (cell_one_new _ _ _) (by intro u hu; simp at hu; subst hu; rfl) (by unfold maxLen; omega) (by omega) (by simp; omega) ?_; intro v2 w2 ho2 hg2 _ hat2; have HG2 := Lib.hid hg2; have HAT2 := Lib.hid hat2; have HO2 := Lib.hid ho2; clear ho2 hg2 hat2)
    have KPb := Lib.hid (own_kpM (N := N) (World.ownsRow.alloc HOBm.out (.cells #[.bool false] 4)) (by omega) HG2.out)
    have HBa2 := Lib.hid (own_belM (World.ownsRow.alloc HOBm.out (.cells #[.bool false] 4)) (HBa1.out.alloc (by omega) _) (by simp; omega) HG2.out)
    have HOBz := Lib.hid (ObM.push (show xSel ks m cc = false by rw [← HCC.out]; exact HXF.out) HO2.out)
    have HOLz := Lib.hid ((HOLn.out.below (bel1 w1 (.cells #[.bool false] 4))).other HG2.out (fun b hb hh => HNE1.out b hh hb) KPb.out)
    have hpl := HOLn.out.lt
    have HNE2 := Lib.hid (ne_step HNE1.out HAT2.out (fun b hb => by have := hpl b hb; simp; omega))
    go_roundw
    case rel => exact ⟨k + 1, by omega, by go_num, by rw [HS0.out, HCC.out]; exact HOLz.out, by rw [HS0.out, HCC.out]; exact HOBz.out, HNE2, HBa2.out⟩
    case measure => simp [intOf]; omega
  ·obtain rfl : m = k := by omega
   rw [HCM.out] at HOB HOL
   obtain ⟨xa, xc, rfl, hsl⟩ := HOB.out.sl
   obtain ⟨xs, hown, hcl⟩ := HOL.out
   obtain ⟨pa, pc, rfl, hrn⟩ := Cl.rn hown hcl
   have HSl := Lib.hid hsl
   have HRn := Lib.hid hrn
   have HRs := Lib.hid (hrn.rs 1 (fun i hi => (HSL.out i hi).2))
   clear hsl hown hcl hrn HOB HOL HNE
   have hl_R' : w.heap.size < wr0.heap.size := Nat.lt_of_lt_of_le hl_R HBa.out.size
   have k_R_0' : wr0.cell? ⟨w.heap.size, 0, none⟩ = some (.bool false) := (HBa.out.cell (p := ⟨w.heap.size, 0, none⟩) hl_R).trans k_R_0
   have k_R_1' : wr0.cell? ⟨w.heap.size, 1, none⟩ = some (.slice none 0 0) := (HBa.out.cell (p := ⟨w.heap.size, 1, none⟩) hl_R).trans k_R_1
   have k_R_2' : wr0.cell? ⟨w.heap.size, 2, none⟩ = some (.slice none 0 0) := (HBa.out.cell (p := ⟨w.heap.size, 2, none⟩) hl_R).trans k_R_2
   have f_R' : ∀ o, wr0.frozen? ⟨w.heap.size, o, none⟩ = false := fun o => (HBa.out.frozen (p := ⟨w.heap.size, o, none⟩) hl_R).trans (f_R o)
   have HX_R' := Lib.hid (HX_R.out.below HBa.out)
   clear hl_R f_R HX_R k_R_0 k_R_1 k_R_2
   have hl_R := hl_R'
   have f_R := f_R'
   have HX_R := HX_R'
   have k_R_0 := k_R_0'
   have k_R_1 := k_R_1'
   have k_R_2 := k_R_2'
   clear hl_R' f_R' HX_R' k_R_0' k_R_1' k_R_2'
   have HB' := Lib.hid (HB.out.trans (HBa.out.mono hs0))
   have hs0' : w.heap.size ≤ wr0.heap.size := Nat.le_trans hs0 hsa
   clear HB hs0
   have HB := HB'
   have hs0 := hs0'
   clear HB' hs0'
   go_wp2_with fail
   refine (xorder_ok (N := N) _ _ _ (pSel D qi ks m) 1 _ hN HRs.out (by omega) HCH.out d HPM.out HST.out).mono ?_
   rintro e wo ⟨oa, oc, rfl, ho1, ho2, hoc, hb⟩
   unfold maxLen at ho2
   have hs_wo : wr0.heap.size ≤ wo.heap.size := hb.size
   replace k_R_0 : wo.cell? ⟨w.heap.size, 0, none⟩ = some (.bool false) := (hb.cell (p := ⟨w.heap.size, 0, none⟩) hl_R).trans k_R_0
   replace k_R_1 : wo.cell? ⟨w.heap.size, 1, none⟩ = some (.slice none 0 0) := (hb.cell (p := ⟨w.heap.size, 1, none⟩) hl_R).trans k_R_1
   replace k_R_2 : wo.cell? ⟨w.heap.size, 2, none⟩ = some (.slice none 0 0) := (hb.cell (p := ⟨w.heap.size, 2, none⟩) hl_R).trans k_R_2
   replace f_R : ∀ o, wo.frozen? ⟨w.heap.size, o, none⟩ = false := fun o => (hb.frozen (p := ⟨w.heap.size, o, none⟩) hl_R).trans (f_R o)
   replace HX_R := Lib.hid (HX_R.out.below hb)
   replace HB := Lib.hid (HB.out.trans (hb.mono hs0))
   replace hN : N ≤ wo.heap.size := Nat.le_trans hN hb.size
   replace hs0 : w.heap.size ≤ wo.heap.size := Nat.le_trans hs0 hb.size
   replace hl_R : w.heap.size < wo.heap.size := Nat.lt_of_lt_of_le hl_R hb.size
   replace HSl := Lib.hid (HSl.out.below hb)
   replace HRn := Lib.hid (HRn.out.below hb)
   clear hb
   have HOC := Lib.hid hoc
   clear hoc
   have HBo := HB
   have hso : w.heap.size ≤ wo.heap.size := hs0
   have hNo : N ≤ wo.heap.size := by omega
   have KRo := Lib.hid (show Box3 wo w.heap.size (.bool false) (.slice none 0 0) (.slice none 0 0) from ⟨hl_R, HX_R.out, f_R, k_R_0, k_R_1, k_R_2⟩)
   clear hl_R f_R HX_R k_R_0 k_R_1 k_R_2 HB hs0
   go_wp2_with fail
   go_loopw [15, 16, 17] (fun sl yl i wr => ∃ j : Nat, j ≤ c ∧ i = .int .i64 j ∧ Ol N wo.heap.size wr sl j (fun v => pSel D qi ks m (d v)) ∧ ObM wo.heap.size wr yl j (fun v => xSel ks m (d v)) ∧ Hid (∀ b, yl.ownBlock = some b → sl.ownBlock ≠ some b) ∧ Below wo.heap.size wo wr) (fun _ _ i _ => c - (intOf i).toNat)
   case atStart => exact ⟨0, Nat.zero_le _, rfl, Ol.nil _ _ _ _, ⟨rfl, .inl ⟨rfl, rfl⟩⟩, Lib.hid (fun b h => by simp [Value.ownBlock] at h), Below.refl _ _⟩
   case round =>
    obtain ⟨j, hjc, rfl, hsr, hxr, HNE, hbel⟩ := hrel
    obtain ⟨wi, rfl⟩ : ∃ x : World, x = wr := ⟨_, rfl⟩
    have HOB := Lib.hid hxr
    have HOL := Lib.hid hsr
    have HBi := Lib.hid hbel
    have hsi : wo.heap.size ≤ wi.heap.size := hbel.size
    clear hxr hsr hbel hN
    have hN : N ≤ wi.heap.size := by omega
    by_cases hjl : j < c
    ·obtain ⟨x, hx⟩ : ∃ x, d j = x := ⟨_, rfl⟩
     have hxc : x < c := by rw [← hx]; exact HPM.out.lt j hjl
     obtain ⟨go_, rfl, hgo⟩ := HOC.out (by omega)
     have hoc0 := hgo j hjl
     rw [hx] at hoc0
     have HX := Lib.hid hx
     clear hx hgo
     obtain ⟨bx, ox, rfl, hcx⟩ := HSl.out.2.2 (by omega)
     have gx0 : wo.cell? ⟨bx, ox + x, none⟩ = some (.bool (xSel ks m x)) := hcx x hxc
     obtain ⟨bp, op_, rfl, hcp⟩ := HRn.out.2.2 (by omega)
     obtain ⟨rq, cq, rq2, cq2, q0', q1', q2', n1, n2⟩ := hcp x hxc
     obtain ⟨xv, hxv⟩ : ∃ b, xSel ks m x = b := ⟨_, rfl⟩
     rw [hxv] at gx0
     have HXV := Lib.hid (show xSel ks m (d j) = xv by rw [HX.out]; exact hxv)
     obtain ⟨pv', hpv⟩ : ∃ p, pSel D qi ks m x = p := ⟨_, rfl⟩
     rw [hpv] at q0' q1' q2' n1 n2
     have HPVx := Lib.hid (show pSel D qi ks m (d j) = pv' by rw [HX.out]; exact hpv)
     have GO0 := Lib.hid hoc0
     have GX0 := Lib.hid gx0
     have go0 := cell_mono hoc0 HBi.out
     have q0 := cell_mono q0' HBi.out
     have q1 := cell_mono q1' HBi.out
     have q2 := cell_mono q2' HBi.out
     have HQ1 := Lib.hid (n1.below HBi.out)
     have HQ2 := Lib.hid (n2.below HBi.out)
     clear hoc0 hcx hcp gx0 q0' q1' q2' n1 n2 hxv hpv
     have hjz : (j : Int) < (c : Int) := by omega
     have hj0 : (0 : Int) ≤ (j : Int) := by omega
     have hxz : (x : Int) < (c : Int) := by omega
     have hx0 : (0 : Int) ≤ (x : Int) := by omega
     obtain ⟨xs, hown, hcl⟩ := HOL.out
     have HO9 := Lib.hid hown
     have HC9 := Lib.hid hcl
     clear hown hcl
     go_upto_region 22 with (at_builtin; refine wpList_append_own_at _ rfl (.tmp 73) (.tmp 81) 38 rfl wo.heap.size 29 i1 (.agg #[.bool false, .slice none 0 0, .slice none 0 0]) 3 56 Tryz.underRats hi1 hy0 hy1 hy2 rfl (by decide) _ j xs rfl (HO9.out.alloc _) ⟨wi.heap.size, 0, none⟩ 1 1 [.bool (decide (pv'.num < 0)), .slice rq (nlen pv'.num.natAbs) cq, .slice rq2 (nlen pv'.den) cq2] rfl rfl (cell_three wi _ _ _ _) (by intro u hu; simp at hu; rcases hu with rfl | rfl | rfl <;> rfl) (by unfold maxLen; omega) (by omega) (by simp; omega) ?_; intro v1 w1 ho1 hg1 _ hat1; have HG1 := Lib.hid hg1; have HAT1 := Lib.hid hat1; have HO1 := Lib.hid ho1; clear ho1 hg1 hat1)
     have KPa := Lib.hid (own_kp (N := N) (HO9.out.alloc (.cells #[.bool (decide (pv'.num < 0)), .slice rq (nlen pv'.num.natAbs) cq, .slice rq2 (nlen pv'.den) cq2] 29)) (by omega) HG1.out)
     have KP1 := Lib.hid (((Kp.refl N wi).alloc (.cells #[.bool (decide (pv'.num < 0)), .slice rq (nlen pv'.num.natAbs) cq, .slice rq2 (nlen pv'.den) cq2] 29)).trans KPa.out)
     have HBi1 := Lib.hid (own_belM (HO9.out.alloc (.cells #[.bool (decide (pv'.num < 0)), .slice rq (nlen pv'.num.natAbs) cq, .slice rq2 (nlen pv'.den) cq2] 29)) (HBi.out.alloc (by omega) _) (by simp; omega) HG1.out)
     have HOLn := Lib.hid (show Ol N wo.heap.size w1 v1 (j + 1) (fun v => pSel D qi ks m (d v)) from ⟨_, HO1.out, Cl.push (HC9.out.imp fun i v0 v1 v2 _ e => e.keep KP1.out) (show En N w1 (fun v => pSel D qi ks m (d v)) j _ _ _ from ⟨rq, cq, rq2, cq2, by simp only [HPVx.out], by simp only [HPVx.out], by simp only [HPVx.out], by simp only [HPVx.out]; exact HQ1.out.keep KP1.out, by simp only [HPVx.out]; exact HQ2.out.keep KP1.out⟩)⟩)
     have hrt := fun b hb => World.ownsRow.lt HOB.out b hb
     have HOBm := Lib.hid (show ObM wo.heap.size w1 _ j (fun v => xSel ks m (d v)) from own_other (World.ownsRow.alloc HOB.out (.cells #[.bool (decide (pv'.num < 0)), .slice rq (nlen pv'.num.natAbs) cq, .slice rq2 (nlen pv'.den) cq2] 29)) HG1.out (fun b hb => HNE.out b hb))
     have HNE1 := Lib.hid (ne_step2 HNE.out HAT1.out (fun b hb => by have := hrt b hb; simp; omega))
     have hs1 : wi.heap.size ≤ w1.heap.size := KP1.out.1
     have go1 := cell_mono GO0.out HBi1.out
     have gx1 := cell_mono GX0.out HBi1.out
     clear HO1 KPa HOL go0 q0 q1 q2 HO9 HC9
     go_wp2_with (at_builtin; refine wpList_append_own_at _ rfl (.tmp 83) (.tmp 91) 37 rfl wo.heap.size 4 i0 (.bool false) 1 1 Tryz.underBoolsM hi hz0 hz1 hz2 rfl (by decide) _ j ((List.range j).map fun i => .bool (xSel ks m (d i))) rfl (World.ownsRow.alloc HOBm.out _) ⟨w1.heap.size, 0, none⟩ 1 1 [.bool xv] (by first | rfl | simp) rfl (cell_one_new _ _ _) (by intro u hu; simp at hu; subst hu; rfl) (by unfold maxLen; omega) (by omega) (by simp; omega) ?_; intro v2 w2 ho2 hg2 _ hat2; have HG2 := Lib.hid hg2; have HAT2 := Lib.hid hat2; have HO2 := Lib.hid ho2; clear ho2 hg2 hat2)
     have KPb := Lib.hid (own_kpM (N := N) (World.ownsRow.alloc HOBm.out (.cells #[.bool xv] 4)) (by omega) HG2.out)
     have HBi2 := Lib.hid (own_belM (World.ownsRow.alloc HOBm.out (.cells #[.bool xv] 4)) (HBi1.out.alloc (by omega) _) (by simp; omega) HG2.out)
     have HOBz := Lib.hid (ObM.push (f := (fun v => xSel ks m (d v))) HXV.out HO2.out)
     have HOLz := Lib.hid ((HOLn.out.below (bel1 w1 (.cells #[.bool xv] 4))).other HG2.out (fun b hb hh => HNE1.out b hh hb) KPb.out)
     have hpl := HOLn.out.lt
     have HNE2 := Lib.hid (ne_step HNE1.out HAT2.out (fun b hb => by have := hpl b hb; simp; omega))
     go_roundw
     case rel => exact ⟨j + 1, by omega, by go_num, HOLz.out, HOBz.out, HNE2, HBi2.out⟩
     case measure => simp [intOf]; omega
    ·obtain rfl : j = c := by omega
     obtain ⟨ya, yc, rfl, hsl⟩ := HOB.out.sl
     obtain ⟨xs, hown, hcl⟩ := HOL.out
     obtain ⟨sa, sc, rfl, hrn⟩ := Cl.rn hown hcl
     have HXS := Lib.hid hsl
     have HRS := Lib.hid (hrn.rs 1 (fun i hi => (HSL.out (d i) (HPM.out.lt i hi)).2))
     have HCD := Lib.hid (show chkF (fun v => pSel D qi ks m (d v)) j = 0 by unfold chkF; rw [if_neg (by omega), if_pos (fun i hi => (HSL.out (d i) (HPM.out.lt i hi)).1)])
     clear hsl hown hcl hrn HOB HOL HNE
     obtain ⟨hl_R, HXR0, f_R, k_R_0, k_R_1, k_R_2⟩ := KRo.out
     have HX_R := Lib.hid HXR0
     clear HXR0
     have hl_R' : w.heap.size < wi.heap.size := Nat.lt_of_lt_of_le hl_R HBi.out.size
     have k_R_0' : wi.cell? ⟨w.heap.size, 0, none⟩ = some (.bool false) := (HBi.out.cell (p := ⟨w.heap.size, 0, none⟩) hl_R).trans k_R_0
     have k_R_1' : wi.cell? ⟨w.heap.size, 1, none⟩ = some (.slice none 0 0) := (HBi.out.cell (p := ⟨w.heap.size, 1, none⟩) hl_R).trans k_R_1
     have k_R_2' : wi.cell? ⟨w.heap.size, 2, none⟩ = some (.slice none 0 0) := (HBi.out.cell (p := ⟨w.heap.size, 2, none⟩) hl_R).trans k_R_2
     have f_R' : ∀ o, wi.frozen? ⟨w.heap.size, o, none⟩ = false := fun o => (HBi.out.frozen (p := ⟨w.heap.size, o, none⟩) hl_R).trans (f_R o)
     have HX_R' := Lib.hid (HX_R.out.below HBi.out)
     clear hl_R f_R HX_R k_R_0 k_R_1 k_R_2
     have hl_R := hl_R'
     have f_R := f_R'
     have HX_R := HX_R'
     have k_R_0 := k_R_0'
     have k_R_1 := k_R_1'
     have k_R_2 := k_R_2'
     clear hl_R' f_R' HX_R' k_R_0' k_R_1' k_R_2'
     have HB := Lib.hid (HBo.out.trans (HBi.out.mono hso))
     have hs0 : w.heap.size ≤ wi.heap.size := by omega
     go_wp2_with fail
     refine (xtst_ok (N := N) _ _ _ j _ (fun i => xSel ks m (d i)) (fun i => pSel D qi ks m (d i)) 1 _ hN (by omega) HXS.out HRS.out (by omega) HCD.out pv HPV.out).mono ?_
     rintro e wt ⟨rt, ct, rt2, ct2, rfl, hn, hn', hb⟩
     have hs_wt : wi.heap.size ≤ wt.heap.size := hb.size
     replace k_R_0 : wt.cell? ⟨w.heap.size, 0, none⟩ = some (.bool false) := (hb.cell (p := ⟨w.heap.size, 0, none⟩) hl_R).trans k_R_0
     replace k_R_1 : wt.cell? ⟨w.heap.size, 1, none⟩ = some (.slice none 0 0) := (hb.cell (p := ⟨w.heap.size, 1, none⟩) hl_R).trans k_R_1
     replace k_R_2 : wt.cell? ⟨w.heap.size, 2, none⟩ = some (.slice none 0 0) := (hb.cell (p := ⟨w.heap.size, 2, none⟩) hl_R).trans k_R_2
     replace f_R : ∀ o, wt.frozen? ⟨w.heap.size, o, none⟩ = false := fun o => (hb.frozen (p := ⟨w.heap.size, o, none⟩) hl_R).trans (f_R o)
     replace HX_R := Lib.hid (HX_R.out.below hb)
     replace HB := Lib.hid (HB.out.trans (hb.mono hs0))
     replace hN : N ≤ wt.heap.size := Nat.le_trans hN hb.size
     replace hs0 : w.heap.size ≤ wt.heap.size := Nat.le_trans hs0 hb.size
     replace hl_R : w.heap.size < wt.heap.size := Nat.lt_of_lt_of_le hl_R hb.size
     clear hb
     have HT1 := Lib.hid hn
     clear hn
     have HT2 := Lib.hid hn'
     clear hn'
     go_wp2_with fail
     refine bodyPost_ret (v := .tuple #[.agg #[.bool (decide ((pv).num < 0)), .slice rt (nlen (pv).num.natAbs) ct, .slice rt2 (nlen (pv).den) ct2], .int .i64 0]) (by simp [results, Tryz.results5, go_sem, k_R_0, k_R_1, k_R_2]) rfl ⟨_, _, _, _, rfl, HT1.out.keep ?_, HT2.out.keep ?_, ?_⟩
     all_goals exact KBA
end Go.Proofs.YtjobopafcgnljaaGreat
