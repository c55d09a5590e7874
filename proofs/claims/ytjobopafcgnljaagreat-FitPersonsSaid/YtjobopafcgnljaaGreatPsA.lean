import Derived.Test.YtjobopafcgnljaaGreatAl
import Derived.Test.YtjobopafcgnljaaGreatMdD
import Derived.Test.YtjobopafcgnljaaGreatTstA
import Derived.Test.YtjobopafcgnljaaGreatFtO
import Derived.Test.YtjobopafcgnljaaGreatLawFO
import Derived.Test.YtjobopafcgnljaaGreatLawMd
import Derived.Test.YtjobopafcgnljaaGreatTqA
namespace Go.Proofs.YtjobopafcgnljaaGreat
open Go.RowKit
theorem chkM_zero {D : MdD} {n m : Nat} {ks : Nat → Int} {q : Int} (h : chkM D n m ks q = 0) : n ≤ 60 ∧ (∀ i, i < n → vcd D i = 0) ∧ (∀ i, i < n → D.rn i 0 ≤ 2) ∧ m = n ∧ 0 < n ∧ 0 ≤ q ∧ q < (D.R 0 : Int) ∧ ∀ i, i < m → -2 ≤ ks i ∧ ks i ≤ 1 := by
 unfold chkM at h
 by_cases h1 : 60 < n
 ·rw [if_pos h1] at h; exact absurd h (by decide)
 rw [if_neg h1] at h
 by_cases h2 : fstC (vcd D) n ≠ 0
 ·rw [if_pos h2] at h; exact absurd h h2
 rw [if_neg h2] at h
 by_cases h3 : ¬ ∀ i, i < n → D.rn i 0 ≤ 2
 ·rw [if_pos h3] at h; exact absurd h (by decide)
 rw [if_neg h3] at h
 by_cases h4 : m ≠ n
 ·rw [if_pos h4] at h; exact absurd h (by decide)
 rw [if_neg h4] at h
 by_cases h5 : n = 0 ∨ q < 0 ∨ (D.R 0 : Int) ≤ q
 ·rw [if_pos h5] at h; exact absurd h (by decide)
 rw [if_neg h5] at h
 by_cases h6 : ¬ ∀ i, i < m → -2 ≤ ks i ∧ ks i ≤ 1
 ·rw [if_pos h6] at h; exact absurd h (by decide)
 exact ⟨by omega, fun i hi => fstC_zero (Classical.not_not.1 h2) i hi, Classical.not_not.1 h3, Classical.not_not.1 h4, by omega, by omega, by omega, Classical.not_not.1 h6⟩
theorem itm_ok {D : MdD} {n qi i : Nat} (hv : ∀ i, i < n → vcd D i = 0) (h2 : ∀ i, i < n → D.rn i 0 ≤ 2) (hq : (qi : Int) < (D.R 0 : Int)) (hi : i < n) : vldC (D.R i) (D.R i) (D.rn i) (D.z i) = 0 ∧ qi < D.R i ∧ D.rn i 0 = 2 ∧ D.rn i qi = 2 ∧ 1 ≤ D.z i qi 1 ∧ D.z i qi 1 ≤ 1000 := by
 obtain ⟨a1, a2, a3, a4, a5, a6⟩ := vcd_zero (hv i hi)
 have h := hv i hi
 have hl := h2 i hi
 unfold vcd at h
 rw [← a2] at h
 have hqi : qi < D.R i := by omega
 obtain ⟨b1, b2, _⟩ := rowMd_zero (a6 qi hqi)
 exact ⟨h, hqi, by omega, by omega, b2 1 (by omega)⟩
theorem sel_ok {D : MdD} {n qi : Nat} {ks : Nat → Int} (hv : ∀ i, i < n → vcd D i = 0) (h2 : ∀ i, i < n → D.rn i 0 ≤ 2) (hq : (qi : Int) < (D.R 0 : Int)) (j : Nat) (hj : j < lftN ks n) : prb (pSel D qi ks n j) = true ∧ rsz (pSel D qi ks n j) ≤ 1 := by
 have h := (itm_ok hv h2 hq (selN_ex ks n j hj).1).2.2.2.2
 exact ⟨pIt_prb h, pIt_rsz h⟩
theorem sel_chk {D : MdD} {n qi : Nat} {ks : Nat → Int} (hv : ∀ i, i < n → vcd D i = 0) (h2 : ∀ i, i < n → D.rn i 0 ≤ 2) (hq : (qi : Int) < (D.R 0 : Int)) : chkF (pSel D qi ks n) (lftN ks n) = if 20 < lftN ks n then 5 else 0 := by
 unfold chkF
 rw [if_pos (show ∀ j, j < lftN ks n → prb (pSel D qi ks n j) = true from fun j hj => (sel_ok hv h2 hq j hj).1)]
def PsPost (N : Nat) (w : World) (c : Nat) (p : Nat → Rat) (x : Nat → Bool) (e : Ending) (w' : World) : Prop :=
 ∃ d, Prm c d ∧ Srt (keyT (gtQ p)) 0 c d ∧ RcPost N w (upQ (nlQ (fun j => p (d j)) c) (c * c / 4 + 1) (erN (fun j => x (d j)) c)) 0 e w'
theorem Ol.other {N B : Nat} {w w1 : World} {v : Value} {m : Nat} {q : Nat → Rat} {blk : Option Nat} (h : Ol N B w v m q) (hg : w.grownBy w1 blk) (hne : ∀ b, v.ownBlock = some b → blk ≠ some b) (kp : Kp N w w1) : Ol N B w1 v m q := by
 obtain ⟨xs, ho, hc⟩ := h
 exact ⟨xs, own_other ho hg hne, hc.imp fun i v0 v1 v2 _ e => e.keep kp⟩
theorem Ol.lt {N B : Nat} {w : World} {v : Value} {m : Nat} {q : Nat → Rat} (h : Ol N B w v m q) : ∀ b, v.ownBlock = some b → B ≤ b ∧ b < w.heap.size := fun b hb => by obtain ⟨xs, ho, _⟩ := h; exact ho.lt b hb
theorem ne_step {rt pl v1 : Value} {S : Nat} (hne : ∀ b, rt.ownBlock = some b → pl.ownBlock ≠ some b) (hat : v1.ownBlock = rt.ownBlock ∨ v1.ownBlock = some S) (hpl : ∀ b, pl.ownBlock = some b → b < S) : ∀ b, v1.ownBlock = some b → pl.ownBlock ≠ some b := fun b hb hh => by
 rcases hat with h | h
 ·rw [h] at hb; exact hne b hb hh
 ·rw [h] at hb; have := hpl b hh; simp only [Option.some.injEq] at hb; omega
theorem ne_step2 {pl v1 v2 : Value} {S : Nat} (hne : ∀ b, v1.ownBlock = some b → pl.ownBlock ≠ some b) (hat : v2.ownBlock = pl.ownBlock ∨ v2.ownBlock = some S) (hv : ∀ b, v1.ownBlock = some b → b < S) : ∀ b, v1.ownBlock = some b → v2.ownBlock ≠ some b := fun b hb hh => by
 rcases hat with h | h
 ·rw [h] at hh; exact hne b hb hh
 ·rw [h] at hh; have := hv b hb; simp only [Option.some.injEq] at hh; omega
theorem rowIs_bn {w : World} {b n : Nat} {f : Nat → Value} (h : w.rowIs b 4 n f) : Bn w b := by
 obtain ⟨c, h1, _⟩ := h
 exact (show Bx w b 4 from ⟨c, _, h1⟩).bn (by decide)
theorem PsPost.mk' {N c : Nat} {w w' : World} {p : Nat → Rat} {x : Nat → Bool} {e : Ending} {d : Nat → Nat} {pv : Rat} (h1 : Prm c d) (h2 : Srt (keyT (gtQ p)) 0 c d) (hp : upQ (nlQ (fun j => p (d j)) c) (c * c / 4 + 1) (erN (fun j => x (d j)) c) = pv) (h : RcPost N w pv 0 e w') : PsPost N w c p x e w' := ⟨d, h1, h2, by rw [hp]; exact h⟩
set_option maxHeartbeats 8000000 in
set_option maxRecDepth 20000 in
theorem person_ok {N : Nat} (am ak : Option Addr) (m cm ck : Nat) (D : MdD) (ks : Nat → Int) (qi : Nat) (w : World) (hN : N ≤ w.heap.size) (h : Ms w am m cm D) (hk : Is w ak m ck ks) (hc : chkP D m m ks qi = 0) :
  Calls Tryz.prog 4 #[.slice am m cm, .slice ak m ck, .int .i64 qi] w (PsPost N w (lftN ks m) (pSel D qi ks m) (xSel ks m)) := by
 have HA := Lib.hid h
 have HK := Lib.hid hk
 have kc := hk.1
 have km := hk.2.1
 unfold maxLen at km
 have hm0 : chkM D m m ks qi = 0 := Classical.byContradiction fun hh => by unfold chkP at hc; rw [if_pos hh] at hc; exact hh hc
 have hl20 : lftN ks m ≤ 20 := Nat.le_of_not_lt fun hh => by unfold chkP at hc; rw [if_neg (fun h2 => h2 hm0), if_pos hh] at hc; exact absurd hc (by decide)
 obtain ⟨m60, hv, h2, _, hm1, _, hq, hks⟩ := chkM_zero hm0
 have HC0 := Lib.hid hc
 have HI := Lib.hid (fun i (hi : i < m) => itm_ok (qi := qi) hv h2 hq hi)
 have HSL := Lib.hid (sel_ok (ks := ks) hv h2 hq)
 have HCH := Lib.hid (show chkF (pSel D qi ks m) (lftN ks m) = 0 by rw [sel_chk hv h2 hq, if_neg (by omega)])
 clear h hk hc hm0 hv h2 hq hks
 obtain ⟨i0, hi, hz0, hz1, hz2⟩ := info_parts Tryz.infoBoolM
 obtain ⟨i1, hi1, hy0, hy1, hy2⟩ := info_parts Tryz.infoRat
 obtain ⟨c, hcm⟩ : ∃ c, lftN ks m = c := ⟨_, rfl⟩
 rw [hcm] at hl20 HCH HSL
 rw [hcm]
 have HCM := Lib.hid hcm
 clear hcm
 have mk1 := fun w => make_boolsF c (by omega) w
 have mk2 := make_rats c (by omega)
 have hN0 := hN
 have HB := Lib.hid (Below.refl w.heap.size w)
 go_enter Tryz.func4, Tryz.ntmps4
 go_wp2_with fail
 refine calls_name fun W0 hW => ?_
 have hs_W0 : w.heap.size ≤ W0.heap.size := by rw [← hW]; exact OmT
 have HL_W0 := Lib.hid (show Below w.heap.size w W0 by rw [← hW]; exact BlA)
 have k_R_0 : W0.cell? ⟨w.heap.size, 0, none⟩ = some (.bool false) := by rw [← hW]; exact CeA
 have k_R_1 : W0.cell? ⟨w.heap.size, 1, none⟩ = some (.slice none 0 0) := by rw [← hW]; exact CeA
 have k_R_2 : W0.cell? ⟨w.heap.size, 2, none⟩ = some (.slice none 0 0) := by rw [← hW]; exact CeA
 have f_R : ∀ o, W0.frozen? ⟨w.heap.size, o, none⟩ = false := by intro o; rw [← hW]; exact CeA
 have HX_R := Lib.hid (show Bn W0 (w.heap.size) by rw [← hW]; exact KpA)
 replace HB := Lib.hid (show Below w.heap.size w W0 by rw [← hW]; exact BlA)
 replace hN : N ≤ W0.heap.size := by rw [← hW]; exact OmT
 have hs0 : w.heap.size ≤ W0.heap.size := by rw [← hW]; exact OmT
 have hl_R : w.heap.size < W0.heap.size := by rw [← hW]; exact OmT
 replace HA := Lib.hid (HA.out.below HL_W0.out)
 replace HK := Lib.hid (HK.out.below HL_W0.out)
 clear HL_W0
 clear hW
 refine (checkP_any _ _ m _ m _ D ks _ _ HA.out HK.out).mono ?_
 rw [HC0.out]
 rintro e wa ⟨rfl, hb⟩
 have hs_wa : W0.heap.size ≤ wa.heap.size := hb.size
 replace k_R_0 : wa.cell? ⟨w.heap.size, 0, none⟩ = some (.bool false) := (hb.cell (p := ⟨w.heap.size, 0, none⟩) hl_R).trans k_R_0
 replace k_R_1 : wa.cell? ⟨w.heap.size, 1, none⟩ = some (.slice none 0 0) := (hb.cell (p := ⟨w.heap.size, 1, none⟩) hl_R).trans k_R_1
 replace k_R_2 : wa.cell? ⟨w.heap.size, 2, none⟩ = some (.slice none 0 0) := (hb.cell (p := ⟨w.heap.size, 2, none⟩) hl_R).trans k_R_2
 replace f_R : ∀ o, wa.frozen? ⟨w.heap.size, o, none⟩ = false := fun o => (hb.frozen (p := ⟨w.heap.size, o, none⟩) hl_R).trans (f_R o)
 replace HX_R := Lib.hid (HX_R.out.below hb)
 replace HB := Lib.hid (HB.out.trans (hb.mono hs0))
 replace hN : N ≤ wa.heap.size := Nat.le_trans hN hb.size
 replace hs0 : w.heap.size ≤ wa.heap.size := Nat.le_trans hs0 hb.size
 replace hl_R : w.heap.size < wa.heap.size := Nat.lt_of_lt_of_le hl_R hb.size
 replace HA := Lib.hid (HA.out.below hb)
 replace HK := Lib.hid (HK.out.below hb)
 clear hb
 go_wp2_with fail
 go_loopw [9, 10, 31] (fun rt pl i wr => ∃ k : Nat, k ≤ m ∧ i = .int .i64 k ∧ ObM wa.heap.size wr rt (lftN ks k) (xSel ks m) ∧ Ol N wa.heap.size wr pl (lftN ks k) (pSel D qi ks m) ∧ Hid (∀ b, rt.ownBlock = some b → pl.ownBlock ≠ some b) ∧ Below wa.heap.size wa wr) (fun _ _ i _ => m - (intOf i).toNat)
 case atStart => exact ⟨0, Nat.zero_le _, rfl, ⟨rfl, .inl ⟨rfl, rfl⟩⟩, Ol.nil _ _ _ _, Lib.hid (fun b h => by simp [Value.ownBlock] at h), Below.refl _ _⟩
 case round =>
  obtain ⟨k, hkm, rfl, hob, hol, HNE, hbel⟩ := hrel
  obtain ⟨wr0, rfl⟩ : ∃ x : World, x = wr := ⟨_, rfl⟩
  have HOB := Lib.hid hob
  have HOL := Lib.hid hol
  have HBa := Lib.hid hbel
  have hsa : wa.heap.size ≤ wr0.heap.size := hbel.size
  clear hN
  have hN : N ≤ wr0.heap.size := by omega
  clear hob hol hbel
  have hck := lftN_mono ks hkm
  by_cases hlt : k < m
  ·obtain ⟨bk, ok, rfl, hc2⟩ := (HK.out.below HBa.out).2.2 (by omega)
   have hcell := hc2 k hlt
   obtain ⟨v, hv⟩ : ∃ v, ks k = v := ⟨_, rfl⟩
   rw [hv] at hcell
   have HV := Lib.hid hv
   have hkz : (k : Int) < (m : Int) := by omega
   have hk0 : (0 : Int) ≤ (k : Int) := by omega
   clear hc2 hv
   by_cases hneg : v < 0
   ·have HS0 := Lib.hid (lftN_skip ks (i := k) (by rw [HV.out]; omega))
    go_wp2_with fail
    go_roundw
    case rel => exact ⟨k + 1, by omega, by go_num, by rw [HS0.out]; exact HOB.out, by rw [HS0.out]; exact HOL.out, HNE, HBa.out⟩
    case measure => simp [intOf]; omega
   by_cases h1 : v = 1
   ·subst h1
    have HS0 := Lib.hid (lftN_step ks (i := k) (by rw [HV.out]; omega))
    have HSE := Lib.hid (selN_eq (ks := ks) (i := k) (by rw [HV.out]; omega) hlt)
    have HXF := Lib.hid (show xSel ks m (lftN ks k) = true by unfold xSel; rw [HSE.out, HV.out]; rfl)
    obtain ⟨b, off, rfl, hca⟩ := (HA.out.below HBa.out).2.2 (by omega)
    obtain ⟨g0, hr0⟩ := hca k hlt
    have HR := Lib.hid hr0
    obtain ⟨e1, e2, e3, e4, e5⟩ := HI.out k hlt
    have HE := Lib.hid (And.intro e1 (And.intro e2 (And.intro e3 (And.intro e4 e5))))
    obtain ⟨p, hp⟩ : ∃ p, pSel D qi ks m (lftN ks k) = p := ⟨_, rfl⟩
    have HP := Lib.hid hp
    have HP2 := Lib.hid (show ((D.z k qi 1 : Int) : Rat) / ((1000 : Int) : Rat) = p by rw [← hp]; unfold pSel pIt; rw [HSE.out])
    clear hca hr0 hp e1 e2 e3 e4 e5
    obtain ⟨cc, hcc⟩ : ∃ c, lftN ks k = c := ⟨_, rfl⟩
    have HCC := Lib.hid hcc
    have hcc20 : cc ≤ 20 := by have h := HCM.out; omega
    rw [hcc] at HOB HOL
    clear hcc
    have HB := Lib.hid (Below.refl wr0.heap.size wr0)
    have hs0 : wr0.heap.size ≤ wr0.heap.size := Nat.le_refl _
    go_wp2_with fail
    refine calls_name fun W1 hW => ?_
    have hs_W1 : wr0.heap.size ≤ W1.heap.size := by rw [← hW]; exact OmT
    replace HB := Lib.hid (show Below wr0.heap.size wr0 W1 by rw [← hW]; exact BlA)
    replace hN : N ≤ W1.heap.size := by rw [← hW]; exact OmT
    replace hs0 : wr0.heap.size ≤ W1.heap.size := by rw [← hW]; exact OmT
    clear hW
    have HOB1 := Lib.hid (HOB.out.below HB.out)
    have HOL1 := Lib.hid (HOL.out.below HB.out)
    have HR1 := Lib.hid (HR.out.below HB.out)
    refine (mprob_any (N := N) _ _ _ _ _ _ _ _ HR1.out hN HE.out.1 qi HE.out.2.1 HE.out.2.2.1 HE.out.2.2.2.1 HE.out.2.2.2.2 p HP2.out).mono ?_
    rintro e wb ⟨rp, cp, rp2, cp2, rfl, hn, hn', hb⟩
    have hs_wb : W1.heap.size ≤ wb.heap.size := hb.size
    replace HB := Lib.hid (HB.out.trans (hb.mono hs0))
    replace hN : N ≤ wb.heap.size := Nat.le_trans hN hb.size
    replace hs0 : wr0.heap.size ≤ wb.heap.size := Nat.le_trans hs0 hb.size
    replace HOB1 := Lib.hid (HOB1.out.below hb)
    replace HOL1 := Lib.hid (HOL1.out.below hb)
    clear hb
    have HP1 := Lib.hid hn
    clear hn
    have HPB := Lib.hid hn'
    clear hn'
    go_upto_region 13 with fail
    refine region_name fun W2 hW => ?_
    have hs_W2 : wb.heap.size ≤ W2.heap.size := by rw [← hW]; exact OmT
    have HK_W2 := Lib.hid (show Kp N wb W2 by rw [← hW]; exact KpA)
    have HBK := Lib.hid (show Bk W2 wb.heap.size 29 3 by rw [← hW]; exact Bk.new wb _ _)
    have HL_W2 := Lib.hid (show Below wb.heap.size wb W2 by rw [← hW]; exact BlA)
    have k_P_0 : W2.cell? ⟨wb.heap.size, 0, none⟩ = some (.bool (decide ((p).num < 0))) := by rw [← hW]; exact CeA
    have k_P_1 : W2.cell? ⟨wb.heap.size, 1, none⟩ = some (.slice rp (nlen (p).num.natAbs) cp) := by rw [← hW]; exact CeA
    have k_P_2 : W2.cell? ⟨wb.heap.size, 2, none⟩ = some (.slice rp2 (nlen (p).den) cp2) := by rw [← hW]; exact CeA
    have f_P : ∀ o, W2.frozen? ⟨wb.heap.size, o, none⟩ = false := by intro o; rw [← hW]; exact CeA
    have HX_P := Lib.hid (show Bn W2 (wb.heap.size) by rw [← hW]; exact KpA)
    replace HP1 := Lib.hid (HP1.out.keep HK_W2.out)
    replace HPB := Lib.hid (HPB.out.keep HK_W2.out)
    replace HB := Lib.hid (show Below wr0.heap.size wr0 W2 by rw [← hW]; exact BlA)
    replace hN : N ≤ W2.heap.size := by rw [← hW]; exact OmT
    replace hs0 : wr0.heap.size ≤ W2.heap.size := by rw [← hW]; exact OmT
    have hl_P : wb.heap.size < W2.heap.size := by rw [← hW]; exact OmT
    replace HOB1 := Lib.hid (HOB1.out.below HL_W2.out)
    replace HOL1 := Lib.hid (HOL1.out.below HL_W2.out)
    clear HL_W2
    clear hW HK_W2
    have HPX := Lib.hid (show Rl N W2 wb.heap.size 1 1 (fun _ => p) from ⟨HBK.out, fun i hi => by (obtain rfl : i = 0 := (by omega)); exact ⟨rp, cp, rp2, cp2, k_P_0, k_P_1, k_P_2, HP1.out, HPB.out⟩⟩)
    have hbs : wr0.heap.size ≤ wb.heap.size := by omega
    go_upto_region 14 with (at_builtin; refine wpList_append_own_at _ rfl (.tmp 51) (.tmp 54) 37 rfl wa.heap.size 4 i0 (.bool false) 1 1 Tryz.underBoolsM hi hz0 hz1 hz2 rfl (by decide) _ cc ((List.range cc).map fun i => .bool (xSel ks m i)) rfl (World.ownsRow.alloc HOB1.out _) ⟨W2.heap.size, 0, none⟩ 1 1 [.bool true] (by first | rfl | simp) rfl (cell_one_new _ _ _) (by intro u hu; simp at hu; subst hu; rfl) (by unfold maxLen; omega) (by omega) (by simp; omega) ?_; intro v1 w1 ho1 hg1 _ hat1; have HG1 := Lib.hid hg1; have HAT1 := Lib.hid hat1; have HO1 := Lib.hid ho1; clear ho1 hg1 hat1)
    have KPa := Lib.hid (own_kpM (N := N) (World.ownsRow.alloc HOB1.out (.cells #[.bool true] 4)) (by omega) HG1.out)
    have KP1 := Lib.hid (((Kp.refl N W2).alloc (.cells #[.bool true] 4)).trans KPa.out)
    have hW2 : wb.heap.size < W2.heap.size := hl_P
    have hwr : wr0.heap.size ≤ W2.heap.size := HB.out.size
    have HBa1 := Lib.hid (own_belM (World.ownsRow.alloc HOB1.out (.cells #[.bool true] 4)) ((HBa.out.trans (HB.out.mono hsa)).alloc (by omega) _) (by simp; omega) HG1.out)
    have HOBn := Lib.hid (ObM.push (show xSel ks m cc = true by rw [← HCC.out]; exact HXF.out) HO1.out)
    have HOL2 := Lib.hid ((HOL1.out.below (bel1 W2 (.cells #[.bool true] 4))).other HG1.out (fun b hb hh => HNE.out b hh hb) KPa.out)
    have hrt := fun b hb => World.ownsRow.lt HOB.out b hb
    have hpl := HOL.out.lt
    have HPX1 := Lib.hid (HPX.out.keep KP1.out ((HG1.out.block wb.heap.size (by simp; omega) (fun e => by have := hrt _ e.symm; omega)).trans ((bel1 W2 (.cells #[.bool true] 4)).block wb.heap.size hW2)))
    have HNE1 := Lib.hid (ne_step HNE.out HAT1.out (fun b hb => by have := hpl b hb; simp; omega))
    have hs1 : W2.heap.size ≤ w1.heap.size := KP1.out.1
    obtain ⟨rq, cq, rq2, cq2, q0, q1, q2, nq1, nq2⟩ := HPX1.out.2 0 (by omega)
    simp only [Nat.zero_mul, Nat.zero_add] at q0 q1 q2
    have HQ1 := Lib.hid nq1
    have HQ2 := Lib.hid nq2
    obtain ⟨xs, hown, hcl⟩ := HOL2.out
    have HO9 := Lib.hid hown
    have HC9 := Lib.hid hcl
    clear nq1 nq2 hown hcl HO1 KPa HOL HOL1 HOB1 k_P_0 k_P_1 k_P_2 f_P
    go_wp2_with (at_builtin; refine wpList_append_own_at _ rfl (.tmp 56) (.tmp 58) 38 rfl wa.heap.size 29 i1 (.agg #[.bool false, .slice none 0 0, .slice none 0 0]) 3 56 Tryz.underRats hi1 hy0 hy1 hy2 rfl (by decide) _ cc xs rfl (HO9.out.alloc _) ⟨w1.heap.size, 0, none⟩ 1 1 [.bool (decide ((p).num < 0)), .slice rq (nlen (p).num.natAbs) cq, .slice rq2 (nlen (p).den) cq2] rfl rfl (cell_three w1 _ _ _ _) (by intro u hu; simp at hu; rcases hu with rfl | rfl | rfl <;> rfl) (by unfold maxLen; omega) (by omega) (by simp; omega) ?_; intro v2 w2 ho2 hg2 _ hat2; have HG2 := Lib.hid hg2; have HAT2 := Lib.hid hat2; have HO2 := Lib.hid ho2; clear ho2 hg2 hat2)
    have KPb := Lib.hid (own_kp (N := N) (HO9.out.alloc (.cells #[.bool (decide ((p).num < 0)), .slice rq (nlen (p).num.natAbs) cq, .slice rq2 (nlen (p).den) cq2] 29)) (by omega) HG2.out)
    have KP2 := Lib.hid (((Kp.refl N w1).alloc (.cells #[.bool (decide ((p).num < 0)), .slice rq (nlen (p).num.natAbs) cq, .slice rq2 (nlen (p).den) cq2] 29)).trans KPb.out)
    have HBa2 := Lib.hid (own_belM (HO9.out.alloc (.cells #[.bool (decide ((p).num < 0)), .slice rq (nlen (p).num.natAbs) cq, .slice rq2 (nlen (p).den) cq2] 29)) (HBa1.out.alloc (by omega) _) (by simp; omega) HG2.out)
    have HC2 := Lib.hid (Cl.push (HC9.out.imp fun i v0 v1 v2 _ e => e.keep KP2.out) (show En N w2 (pSel D qi ks m) cc _ _ _ from ⟨rq, cq, rq2, cq2, by rw [show pSel D qi ks m cc = p by rw [← HCC.out]; exact HP.out], by rw [show pSel D qi ks m cc = p by rw [← HCC.out]; exact HP.out], by rw [show pSel D qi ks m cc = p by rw [← HCC.out]; exact HP.out], by rw [show pSel D qi ks m cc = p by rw [← HCC.out]; exact HP.out]; exact HQ1.out.keep KP2.out, by rw [show pSel D qi ks m cc = p by rw [← HCC.out]; exact HP.out]; exact HQ2.out.keep KP2.out⟩))
    have HOBz := Lib.hid (own_other (World.ownsRow.alloc HOBn.out (.cells #[.bool (decide ((p).num < 0)), .slice rq (nlen (p).num.natAbs) cq, .slice rq2 (nlen (p).den) cq2] 29)) HG2.out (fun b hb => HNE1.out b hb))
    have hv1 : ∀ b, v1.ownBlock = some b → b < w1.heap.size := fun b hb => (HOBn.out.lt b hb).2
    have HNE2 := Lib.hid (ne_step2 HNE1.out HAT2.out (fun b hb => by have := hv1 b hb; simp; omega))
    go_roundw
    case rel => exact ⟨k + 1, by omega, by go_num, by rw [HS0.out, HCC.out]; exact HOBz.out, by rw [HS0.out, HCC.out]; exact ⟨_, HO2.out, HC2.out⟩, HNE2, HBa2.out⟩
    case measure => simp [intOf]; omega
   ·have h1b : (v == 1) = false := by simpa using h1
    have HS0 := Lib.hid (lftN_step ks (i := k) (by rw [HV.out]; omega))
    have HSE := Lib.hid (selN_eq (ks := ks) (i := k) (by rw [HV.out]; omega) hlt)
    have HXF := Lib.hid (show xSel ks m (lftN ks k) = false by unfold xSel; rw [HSE.out, HV.out]; exact decide_eq_false h1)
    obtain ⟨b, off, rfl, hca⟩ := (HA.out.below HBa.out).2.2 (by omega)
    obtain ⟨g0, hr0⟩ := hca k hlt
    have HR := Lib.hid hr0
    obtain ⟨e1, e2, e3, e4, e5⟩ := HI.out k hlt
    have HE := Lib.hid (And.intro e1 (And.intro e2 (And.intro e3 (And.intro e4 e5))))
    obtain ⟨p, hp⟩ : ∃ p, pSel D qi ks m (lftN ks k) = p := ⟨_, rfl⟩
    have HP := Lib.hid hp
    have HP2 := Lib.hid (show ((D.z k qi 1 : Int) : Rat) / ((1000 : Int) : Rat) = p by rw [← hp]; unfold pSel pIt; rw [HSE.out])
    clear hca hr0 hp e1 e2 e3 e4 e5
    obtain ⟨cc, hcc⟩ : ∃ c, lftN ks k = c := ⟨_, rfl⟩
    have HCC := Lib.hid hcc
    have hcc20 : cc ≤ 20 := by have h := HCM.out; omega
    rw [hcc] at HOB HOL
    clear hcc
    have HB := Lib.hid (Below.refl wr0.heap.size wr0)
    have hs0 : wr0.heap.size ≤ wr0.heap.size := Nat.le_refl _
    go_wp2_with fail
    refine calls_name fun W1 hW => ?_
    have hs_W1 : wr0.heap.size ≤ W1.heap.size := by rw [← hW]; exact OmT
    replace HB := Lib.hid (show Below wr0.heap.size wr0 W1 by rw [← hW]; exact BlA)
    replace hN : N ≤ W1.heap.size := by rw [← hW]; exact OmT
    replace hs0 : wr0.heap.size ≤ W1.heap.size := by rw [← hW]; exact OmT
    clear hW
    have HOB1 := Lib.hid (HOB.out.below HB.out)
    have HOL1 := Lib.hid (HOL.out.below HB.out)
    have HR1 := Lib.hid (HR.out.below HB.out)
    refine (mprob_any (N := N) _ _ _ _ _ _ _ _ HR1.out hN HE.out.1 qi HE.out.2.1 HE.out.2.2.1 HE.out.2.2.2.1 HE.out.2.2.2.2 p HP2.out).mono ?_
    rintro e wb ⟨rp, cp, rp2, cp2, rfl, hn, hn', hb⟩
    have hs_wb : W1.heap.size ≤ wb.heap.size := hb.size
    replace HB := Lib.hid (HB.out.trans (hb.mono hs0))
    replace hN : N ≤ wb.heap.size := Nat.le_trans hN hb.size
    replace hs0 : wr0.heap.size ≤ wb.heap.size := Nat.le_trans hs0 hb.size
    replace HOB1 := Lib.hid (HOB1.out.below hb)
    replace HOL1 := Lib.hid (HOL1.out.below hb)
    clear hb
    have HP1 := Lib.hid hn
    clear hn
    have HPB := Lib.hid hn'
    clear hn'
    go_upto_region 13 with fail
    refine region_name fun W2 hW => ?_
    have hs_W2 : wb.heap.size ≤ W2.heap.size := by rw [← hW]; exact OmT
    have HK_W2 := Lib.hid (show Kp N wb W2 by rw [← hW]; exact KpA)
    have HBK := Lib.hid (show Bk W2 wb.heap.size 29 3 by rw [← hW]; exact Bk.new wb _ _)
    have HL_W2 := Lib.hid (show Below wb.heap.size wb W2 by rw [← hW]; exact BlA)
    have k_P_0 : W2.cell? ⟨wb.heap.size, 0, none⟩ = some (.bool (decide ((p).num < 0))) := by rw [← hW]; exact CeA
    have k_P_1 : W2.cell? ⟨wb.heap.size, 1, none⟩ = some (.slice rp (nlen (p).num.natAbs) cp) := by rw [← hW]; exact CeA
    have k_P_2 : W2.cell? ⟨wb.heap.size, 2, none⟩ = some (.slice rp2 (nlen (p).den) cp2) := by rw [← hW]; exact CeA
    have f_P : ∀ o, W2.frozen? ⟨wb.heap.size, o, none⟩ = false := by intro o; rw [← hW]; exact CeA
    have HX_P := Lib.hid (show Bn W2 (wb.heap.size) by rw [← hW]; exact KpA)
    replace HP1 := Lib.hid (HP1.out.keep HK_W2.out)
    replace HPB := Lib.hid (HPB.out.keep HK_W2.out)
    replace HB := Lib.hid (show Below wr0.heap.size wr0 W2 by rw [← hW]; exact BlA)
    replace hN : N ≤ W2.heap.size := by rw [← hW]; exact OmT
    replace hs0 : wr0.heap.size ≤ W2.heap.size := by rw [← hW]; exact OmT
    have hl_P : wb.heap.size < W2.heap.size := by rw [← hW]; exact OmT
    replace HOB1 := Lib.hid (HOB1.out.below HL_W2.out)
    replace HOL1 := Lib.hid (HOL1.out.below HL_W2.out)
    clear HL_W2
    clear hW HK_W2
    have HPX := Lib.hid (show Rl N W2 wb.heap.size 1 1 (fun _ => p) from ⟨HBK.out, fun i hi => by (obtain rfl : i = 0 := (by omega)); exact ⟨rp, cp, rp2, cp2, k_P_0, k_P_1, k_P_2, HP1.out, HPB.out⟩⟩)
    have hbs : wr0.heap.size ≤ wb.heap.size := by omega
    go_upto_region 14 with (at_builtin; refine wpList_append_own_at _ rfl (.tmp 51) (.tmp 54) 37 rfl wa.heap.size 4 i0 (.bool false) 1 1 Tryz.underBoolsM hi hz0 hz1 hz2 rfl (by decide) _ cc ((List.range cc).map fun i => .bool (xSel ks m i)) rfl (World.ownsRow.alloc HOB1.out _) ⟨W2.heap.size, 0, none⟩ 1 1 [.bool false] (by first | rfl | simp) rfl (cell_one_new _ _ _) (by intro u hu; simp at hu; subst hu; rfl) (by unfold maxLen; omega) (by omega) (by simp; omega) ?_; intro v1 w1 ho1 hg1 _ hat1; have HG1 := Lib.hid hg1; have HAT1 := Lib.hid hat1; have HO1 := Lib.hid ho1; clear ho1 hg1 hat1)
    have KPa := Lib.hid (own_kpM (N := N) (World.ownsRow.alloc HOB1.out (.cells #[.bool false] 4)) (by omega) HG1.out)
    have KP1 := Lib.hid (((Kp.refl N W2).alloc (.cells #[.bool false] 4)).trans KPa.out)
    have hW2 : wb.heap.size < W2.heap.size := hl_P
    have hwr : wr0.heap.size ≤ W2.heap.size := HB.out.size
    have HBa1 := Lib.hid (own_belM (World.ownsRow.alloc HOB1.out (.cells #[.bool false] 4)) ((HBa.out.trans (HB.out.mono hsa)).alloc (by omega) _) (by simp; omega) HG1.out)
    have HOBn := Lib.hid (ObM.push (show xSel ks m cc = false by rw [← HCC.out]; exact HXF.out) HO1.out)
    have HOL2 := Lib.hid ((HOL1.out.below (bel1 W2 (.cells #[.bool false] 4))).other HG1.out (fun b hb hh => HNE.out b hh hb) KPa.out)
    have hrt := fun b hb => World.ownsRow.lt HOB.out b hb
    have hpl := HOL.out.lt
    have HPX1 := Lib.hid (HPX.out.keep KP1.out ((HG1.out.block wb.heap.size (by simp; omega) (fun e => by have := hrt _ e.symm; omega)).trans ((bel1 W2 (.cells #[.bool false] 4)).block wb.heap.size hW2)))
    have HNE1 := Lib.hid (ne_step HNE.out HAT1.out (fun b hb => by have := hpl b hb; simp; omega))
    have hs1 : W2.heap.size ≤ w1.heap.size := KP1.out.1
    obtain ⟨rq, cq, rq2, cq2, q0, q1, q2, nq1, nq2⟩ := HPX1.out.2 0 (by omega)
    simp only [Nat.zero_mul, Nat.zero_add] at q0 q1 q2
    have HQ1 := Lib.hid nq1
    have HQ2 := Lib.hid nq2
    obtain ⟨xs, hown, hcl⟩ := HOL2.out
    have HO9 := Lib.hid hown
    have HC9 := Lib.hid hcl
    clear nq1 nq2 hown hcl HO1 KPa HOL HOL1 HOB1 k_P_0 k_P_1 k_P_2 f_P
    go_wp2_with (at_builtin; refine wpList_append_own_at _ rfl (.tmp 56) (.tmp 58) 38 rfl wa.heap.size 29 i1 (.agg #[.bool false, .slice none 0 0, .slice none 0 0]) 3 56 Tryz.underRats hi1 hy0 hy1 hy2 rfl (by decide) _ cc xs rfl (HO9.out.alloc _) ⟨w1.heap.size, 0, none⟩ 1 1 [.bool (decide ((p).num < 0)), .slice rq (nlen (p).num.natAbs) cq, .slice rq2 (nlen (p).den) cq2] rfl rfl (cell_three w1 _ _ _ _) (by intro u hu; simp at hu; rcases hu with rfl | rfl | rfl <;> rfl) (by unfold maxLen; omega) (by omega) (by simp; omega) ?_; intro v2 w2 ho2 hg2 _ hat2; have HG2 := Lib.hid hg2; have HAT2 := Lib.hid hat2; have HO2 := Lib.hid ho2; clear ho2 hg2 hat2)
    have KPb := Lib.hid (own_kp (N := N) (HO9.out.alloc (.cells #[.bool (decide ((p).num < 0)), .slice rq (nlen (p).num.natAbs) cq, .slice rq2 (nlen (p).den) cq2] 29)) (by omega) HG2.out)
    have KP2 := Lib.hid (((Kp.refl N w1).alloc (.cells #[.bool (decide ((p).num < 0)), .slice rq (nlen (p).num.natAbs) cq, .slice rq2 (nlen (p).den) cq2] 29)).trans KPb.out)
    have HBa2 := Lib.hid (own_belM (HO9.out.alloc (.cells #[.bool (decide ((p).num < 0)), .slice rq (nlen (p).num.natAbs) cq, .slice rq2 (nlen (p).den) cq2] 29)) (HBa1.out.alloc (by omega) _) (by simp; omega) HG2.out)
    have HC2 := Lib.hid (Cl.push (HC9.out.imp fun i v0 v1 v2 _ e => e.keep KP2.out) (show En N w2 (pSel D qi ks m) cc _ _ _ from ⟨rq, cq, rq2, cq2, by rw [show pSel D qi ks m cc = p by rw [← HCC.out]; exact HP.out], by rw [show pSel D qi ks m cc = p by rw [← HCC.out]; exact HP.out], by rw [show pSel D qi ks m cc = p by rw [← HCC.out]; exact HP.out], by rw [show pSel D qi ks m cc = p by rw [← HCC.out]; exact HP.out]; exact HQ1.out.keep KP2.out, by rw [show pSel D qi ks m cc = p by rw [← HCC.out]; exact HP.out]; exact HQ2.out.keep KP2.out⟩))
    have HOBz := Lib.hid (own_other (World.ownsRow.alloc HOBn.out (.cells #[.bool (decide ((p).num < 0)), .slice rq (nlen (p).num.natAbs) cq, .slice rq2 (nlen (p).den) cq2] 29)) HG2.out (fun b hb => HNE1.out b hb))
    have hv1 : ∀ b, v1.ownBlock = some b → b < w1.heap.size := fun b hb => (HOBn.out.lt b hb).2
    have HNE2 := Lib.hid (ne_step2 HNE1.out HAT2.out (fun b hb => by have := hv1 b hb; simp; omega))
    go_roundw
    case rel => exact ⟨k + 1, by omega, by go_num, by rw [HS0.out, HCC.out]; exact HOBz.out, by rw [HS0.out, HCC.out]; exact ⟨_, HO2.out, HC2.out⟩, HNE2, HBa2.out⟩
    case measure => simp [intOf]; omega
  ·obtain rfl : m = k := by omega
   rw [HCM.out] at HOB HOL
   obtain ⟨xa, xc, rfl, hsl⟩ := HOB.out.sl
   obtain ⟨xs, hown, hcl⟩ := HOL.out
   obtain ⟨pa, pc, rfl, hrn⟩ := Cl.rn hown hcl
   have HSl := Lib.hid hsl
   have HRn := Lib.hid hrn
   have HRs := Lib.hid (hrn.rs 1 (fun i hi => (HSL.out i hi).2))
   clear hsl hown hcl hrn HOB HOL HNE
   have hl_R' : w.heap.size < wr0.heap.size := Nat.lt_of_lt_of_le hl_R HBa.out.size
   have k_R_0' : wr0.cell? ⟨w.heap.size, 0, none⟩ = some (.bool false) := (HBa.out.cell (p := ⟨w.heap.size, 0, none⟩) hl_R).trans k_R_0
   have k_R_1' : wr0.cell? ⟨w.heap.size, 1, none⟩ = some (.slice none 0 0) := (HBa.out.cell (p := ⟨w.heap.size, 1, none⟩) hl_R).trans k_R_1
   have k_R_2' : wr0.cell? ⟨w.heap.size, 2, none⟩ = some (.slice none 0 0) := (HBa.out.cell (p := ⟨w.heap.size, 2, none⟩) hl_R).trans k_R_2
   have f_R' : ∀ o, wr0.frozen? ⟨w.heap.size, o, none⟩ = false := fun o => (HBa.out.frozen (p := ⟨w.heap.size, o, none⟩) hl_R).trans (f_R o)
   have HX_R' := Lib.hid (HX_R.out.below HBa.out)
   clear hl_R f_R HX_R k_R_0 k_R_1 k_R_2
   have hl_R := hl_R'
   have f_R := f_R'
   have HX_R := HX_R'
   have k_R_0 := k_R_0'
   have k_R_1 := k_R_1'
   have k_R_2 := k_R_2'
   clear hl_R' f_R' HX_R' k_R_0' k_R_1' k_R_2'
   have HB' := Lib.hid (HB.out.trans (HBa.out.mono hs0))
   have hs0' : w.heap.size ≤ wr0.heap.size := Nat.le_trans hs0 hsa
   clear HB hs0
   have HB := HB'
   have hs0 := hs0'
   clear HB' hs0'
   go_wp2_with fail
   refine (order_ok (N := N) _ _ _ (pSel D qi ks m) 1 _ hN HRs.out (by omega) HCH.out).mono ?_
   rintro e wo ⟨ob, d, rfl, ho0, ho1, hoc, hpm, hst, hb⟩
   have hs_wo : wr0.heap.size ≤ wo.heap.size := hb.size
   replace k_R_0 : wo.cell? ⟨w.heap.size, 0, none⟩ = some (.bool false) := (hb.cell (p := ⟨w.heap.size, 0, none⟩) hl_R).trans k_R_0
   replace k_R_1 : wo.cell? ⟨w.heap.size, 1, none⟩ = some (.slice none 0 0) := (hb.cell (p := ⟨w.heap.size, 1, none⟩) hl_R).trans k_R_1
   replace k_R_2 : wo.cell? ⟨w.heap.size, 2, none⟩ = some (.slice none 0 0) := (hb.cell (p := ⟨w.heap.size, 2, none⟩) hl_R).trans k_R_2
   replace f_R : ∀ o, wo.frozen? ⟨w.heap.size, o, none⟩ = false := fun o => (hb.frozen (p := ⟨w.heap.size, o, none⟩) hl_R).trans (f_R o)
   replace HX_R := Lib.hid (HX_R.out.below hb)
   replace HB := Lib.hid (HB.out.trans (hb.mono hs0))
   replace hN : N ≤ wo.heap.size := Nat.le_trans hN hb.size
   replace hs0 : w.heap.size ≤ wo.heap.size := Nat.le_trans hs0 hb.size
   replace hl_R : w.heap.size < wo.heap.size := Nat.lt_of_lt_of_le hl_R hb.size
   replace HSl := Lib.hid (HSl.out.below hb)
   replace HRn := Lib.hid (HRn.out.below hb)
   clear hb
   have HOC := Lib.hid hoc
   have HPM := Lib.hid hpm
   have HST := Lib.hid hst
   clear hoc hpm hst ho0
   go_wp2_with fail
   have HBo := HB
   have hso : w.heap.size ≤ wo.heap.size := hs0
   have HSlo := HSl
   have HRno := HRn
   have KRo := Lib.hid (show Box3 wo w.heap.size (.bool false) (.slice none 0 0) (.slice none 0 0) from ⟨hl_R, HX_R.out, f_R, k_R_0, k_R_1, k_R_2⟩)
   refine block_nameB fun W7 hW => ?_
   have HL_W7 := Lib.hid (show Below wo.heap.size wo W7 by rw [← hW]; exact BlA)
   have hs_W7 : wo.heap.size ≤ W7.heap.size := by rw [← hW]; exact OmT
   have HX7 := Lib.hid (show W7.rowIs wo.heap.size 4 c (fun v => .bool (if v < 0 then xSel ks m (d v) else false)) by rw [← hW]; exact ((World.rowIs_made wo (.bool false) c 4).congr (fun j hj => by simp)).alloc _)
   have HS7 := Lib.hid (show Rl N W7 (wo.heap.size + 1) c 0 (fun v => pSel D qi ks m (d v)) by rw [← hW]; have := Rl.made N (wo.alloc (.cells (madeCells #[.bool false] c) 4)) c (fun v => pSel D qi ks m (d v)); rwa [show (wo.alloc (.cells (madeCells #[.bool false] c) 4)).heap.size = wo.heap.size + 1 by simp] at this)
   have hs7 : W7.heap.size = wo.heap.size + 2 := by rw [← hW]; simp
   have HB7 := Lib.hid (show Below wo.heap.size wo W7 by rw [← hW]; exact (bel1 wo _).alloc (by simp) _)
   replace k_R_0 : W7.cell? ⟨w.heap.size, 0, none⟩ = some (.bool false) := (HL_W7.out.cell (p := ⟨w.heap.size, 0, none⟩) hl_R).trans k_R_0
   replace k_R_1 : W7.cell? ⟨w.heap.size, 1, none⟩ = some (.slice none 0 0) := (HL_W7.out.cell (p := ⟨w.heap.size, 1, none⟩) hl_R).trans k_R_1
   replace k_R_2 : W7.cell? ⟨w.heap.size, 2, none⟩ = some (.slice none 0 0) := (HL_W7.out.cell (p := ⟨w.heap.size, 2, none⟩) hl_R).trans k_R_2
   replace f_R : ∀ o, W7.frozen? ⟨w.heap.size, o, none⟩ = false := fun o => (HL_W7.out.frozen (p := ⟨w.heap.size, o, none⟩) hl_R).trans (f_R o)
   replace HX_R := Lib.hid (show Bn W7 (w.heap.size) by rw [← hW]; exact KpA)
   replace HB := Lib.hid (show Below w.heap.size w W7 by rw [← hW]; exact BlA)
   replace hN : N ≤ W7.heap.size := by rw [← hW]; exact OmT
   replace hs0 : w.heap.size ≤ W7.heap.size := by rw [← hW]; exact OmT
   replace hl_R : w.heap.size < W7.heap.size := by rw [← hW]; exact OmT
   replace HSl := Lib.hid (HSl.out.below HL_W7.out)
   replace HRn := Lib.hid (HRn.out.below HL_W7.out)
   clear HL_W7
   clear hW
   have hNo : N ≤ wo.heap.size := by omega
   go_loopw [78] (fun i wr => ∃ j : Nat, j ≤ c ∧ i = .int .i64 j ∧ wr.rowIs wo.heap.size 4 c (fun v => .bool (if v < j then xSel ks m (d v) else false)) ∧ Rl N wr (wo.heap.size + 1) c j (fun v => pSel D qi ks m (d v)) ∧ Below wo.heap.size wo wr ∧ wo.heap.size + 2 ≤ wr.heap.size) (fun i _ => c - (intOf i).toNat)
   case atStart => exact ⟨0, Nat.zero_le _, rfl, HX7.out, HS7.out, HB7.out, by omega⟩
   case round =>
    obtain ⟨j, hjc, rfl, hxr, hsr, hbel, hsz⟩ := hrel
    obtain ⟨wi, rfl⟩ : ∃ x : World, x = wr := ⟨_, rfl⟩
    have HXR := Lib.hid hxr
    have HSR := Lib.hid hsr
    have HBi := Lib.hid hbel
    clear hxr hsr hbel HX7 HS7 HB7 hN
    have hN : N ≤ wi.heap.size := by omega
    by_cases hjl : j < c
    ·obtain ⟨x, hx⟩ : ∃ x, d j = x := ⟨_, rfl⟩
     have hxc : x < c := by rw [← hx]; exact HPM.out.lt j hjl
     have hoc := HOC.out j hjl
     rw [hx] at hoc
     have HX := Lib.hid hx
     clear hx
     obtain ⟨bx, ox, rfl, hcx⟩ := HSlo.out.2.2 (by omega)
     have gx0 : wo.cell? ⟨bx, ox + x, none⟩ = some (.bool (xSel ks m x)) := hcx x hxc
     obtain ⟨bp, op_, rfl, hcp⟩ := HRno.out.2.2 (by omega)
     obtain ⟨rq, cq, rq2, cq2, q0, q1, q2, n1, n2⟩ := hcp x hxc
     obtain ⟨xv, hxv⟩ : ∃ b, xSel ks m x = b := ⟨_, rfl⟩
     rw [hxv] at gx0
     have HXV := Lib.hid hxv
     obtain ⟨pv, hpv⟩ : ∃ p, pSel D qi ks m x = p := ⟨_, rfl⟩
     rw [hpv] at q0 q1 q2 n1 n2
     have HPV := Lib.hid hpv
     have go := cell_mono hoc HBi.out
     have gx := cell_mono gx0 HBi.out
     have Q0 := Lib.hid q0
     have Q1 := Lib.hid q1
     have Q2 := Lib.hid q2
     have NQ1 := Lib.hid n1
     have NQ2 := Lib.hid n2
     clear hoc hcx hcp gx0 q0 q1 q2 n1 n2 hxv hpv
     have hcr := HXR.out.cell hjl
     have hfr := HXR.out.frozen
     have hjz : (j : Int) < (c : Int) := by omega
     have hj0 : (0 : Int) ≤ (j : Int) := by omega
     have hxz : (x : Int) < (c : Int) := by omega
     have hx0 : (0 : Int) ≤ (x : Int) := by omega
     go_upto_region 25 with fail
     refine region_name fun W8 hW => ?_
     have HX8 := Lib.hid (show W8.rowIs wo.heap.size 4 c (fun v => .bool (if v < j + 1 then xSel ks m (d v) else false)) by rw [← hW]; exact (World.rowIs.set HXR.out j (.bool xv)).congr (fun i hi => by by_cases e : i = j; (· subst e; rw [if_pos rfl, if_pos (by omega), HX.out, HXV.out]); (· rw [if_neg e]; congr 1; by_cases e2 : i < j; (· rw [if_pos e2, if_pos (by omega)]); (· rw [if_neg e2, if_neg (by omega)]))))
     have HS8 := Lib.hid (show Rl N W8 (wo.heap.size + 1) c j (fun v => pSel D qi ks m (d v)) by rw [← hW]; exact HSR.out.keep ((Kp.refl N wi).put hNo (rowIs_bn HXR.out) _) (Sb.set (Sb.refl _ _) (by omega) _))
     have HB8 := Lib.hid (show Below wo.heap.size wo W8 by rw [← hW]; exact HBi.out.setCell (Nat.le_refl _) _)
     have hs8 : W8.heap.size = wi.heap.size := by rw [← hW]; simp [World.setCell]
     clear hW go gx hcr hfr
     have q0 := cell_mono Q0.out HB8.out
     have q1 := cell_mono Q1.out HB8.out
     have q2 := cell_mono Q2.out HB8.out
     have HQ1 := Lib.hid (NQ1.out.below HB8.out)
     have HQ2 := Lib.hid (NQ2.out.below HB8.out)
     obtain ⟨v0, g0⟩ := HS8.out.1.cell (o := j * 3) (by omega)
     obtain ⟨v1, g1⟩ := HS8.out.1.cell (o := j * 3 + 1) (by omega)
     obtain ⟨v2, g2⟩ := HS8.out.1.cell (o := j * 3 + 2) (by omega)
     have fz := HS8.out.1.frozen
     go_wp2_with fail
     have HPJ := Lib.hid (show pSel D qi ks m (d j) = pv by rw [HX.out, HPV.out])
     go_roundw
     case rel =>
      refine ⟨j + 1, by omega, by go_num, ?_, ?_, ((HB8.out.setCell (Nat.le_succ wo.heap.size) _).setCell (Nat.le_succ wo.heap.size) _).setCell (Nat.le_succ wo.heap.size) _, by simp [World.setCell]; omega⟩
      ·exact World.rowIs.of_block HX8.out (((Sb.set (Sb.set (Sb.set (Sb.refl wo.heap.size W8) (by omega) _) (by omega) _) (by omega) _)))
      ·have h3 := HS8.out.step (by omega) hjl (r := rq) (c := cq) (r2 := rq2) (c2 := cq2) (by simp only [HPJ.out]; exact HQ1.out) (by simp only [HPJ.out]; exact HQ2.out)
       simp only [HPJ.out] at h3
       exact h3
     case measure => simp [intOf]; omega
    ·obtain rfl : j = c := by omega
     have HXS := Lib.hid (show Sl wi (some ⟨wo.heap.size, 0, none⟩) j j (fun i => .bool (xSel ks m (d i))) from ⟨Nat.le_refl _, by unfold maxLen; omega, fun _ => ⟨_, 0, rfl, fun i hi => by have := HXR.out.cell hi; rw [Nat.zero_add, this, if_pos hi]⟩⟩)
     have HRS := Lib.hid (HSR.out.rs (by unfold maxLen; omega) 1 (fun i hi => (HSL.out (d i) (HPM.out.lt i hi)).2))
     have HCD := Lib.hid (show chkF (fun v => pSel D qi ks m (d v)) j = 0 by unfold chkF; rw [if_neg (by omega), if_pos (fun i hi => (HSL.out (d i) (HPM.out.lt i hi)).1)])
     obtain ⟨pv, hpv⟩ : ∃ p, upQ (nlQ (fun i => pSel D qi ks m (d i)) j) (j * j / 4 + 1) (erN (fun i => xSel ks m (d i)) j) = p := ⟨_, rfl⟩
     have HPV := Lib.hid hpv
     clear hpv
     clear hl_R f_R HX_R k_R_0 k_R_1 k_R_2
     obtain ⟨hl_R, HXR0, f_R, k_R_0, k_R_1, k_R_2⟩ := KRo.out
     have HX_R := Lib.hid HXR0
     clear HXR0
     have hl_R' : w.heap.size < wi.heap.size := Nat.lt_of_lt_of_le hl_R HBi.out.size
     have k_R_0' : wi.cell? ⟨w.heap.size, 0, none⟩ = some (.bool false) := (HBi.out.cell (p := ⟨w.heap.size, 0, none⟩) hl_R).trans k_R_0
     have k_R_1' : wi.cell? ⟨w.heap.size, 1, none⟩ = some (.slice none 0 0) := (HBi.out.cell (p := ⟨w.heap.size, 1, none⟩) hl_R).trans k_R_1
     have k_R_2' : wi.cell? ⟨w.heap.size, 2, none⟩ = some (.slice none 0 0) := (HBi.out.cell (p := ⟨w.heap.size, 2, none⟩) hl_R).trans k_R_2
     have f_R' : ∀ o, wi.frozen? ⟨w.heap.size, o, none⟩ = false := fun o => (HBi.out.frozen (p := ⟨w.heap.size, o, none⟩) hl_R).trans (f_R o)
     have HX_R' := Lib.hid (HX_R.out.below HBi.out)
     clear hl_R f_R HX_R k_R_0 k_R_1 k_R_2
     have hl_R := hl_R'
     have f_R := f_R'
     have HX_R := HX_R'
     have k_R_0 := k_R_0'
     have k_R_1 := k_R_1'
     have k_R_2 := k_R_2'
     clear hl_R' f_R' HX_R' k_R_0' k_R_1' k_R_2'
     have HB := Lib.hid (HBo.out.trans (HBi.out.mono hso))
     have hs1 : w.heap.size ≤ wi.heap.size := by omega
     clear hs0
     have hs0 := hs1
     go_wp2_with fail
     refine (tst_ok (N := N) _ _ _ j _ (fun i => xSel ks m (d i)) (fun i => pSel D qi ks m (d i)) 1 _ hN (by omega) HXS.out HRS.out (by omega) HCD.out pv HPV.out).mono ?_
     rintro e wt ⟨rt, ct, rt2, ct2, rfl, hn, hn', hb⟩
     have hs_wt : wi.heap.size ≤ wt.heap.size := hb.size
     replace k_R_0 : wt.cell? ⟨w.heap.size, 0, none⟩ = some (.bool false) := (hb.cell (p := ⟨w.heap.size, 0, none⟩) hl_R).trans k_R_0
     replace k_R_1 : wt.cell? ⟨w.heap.size, 1, none⟩ = some (.slice none 0 0) := (hb.cell (p := ⟨w.heap.size, 1, none⟩) hl_R).trans k_R_1
     replace k_R_2 : wt.cell? ⟨w.heap.size, 2, none⟩ = some (.slice none 0 0) := (hb.cell (p := ⟨w.heap.size, 2, none⟩) hl_R).trans k_R_2
     replace f_R : ∀ o, wt.frozen? ⟨w.heap.size, o, none⟩ = false := fun o => (hb.frozen (p := ⟨w.heap.size, o, none⟩) hl_R).trans (f_R o)
     replace HX_R := Lib.hid (HX_R.out.below hb)
     replace HB := Lib.hid (HB.out.trans (hb.mono hs0))
     replace hN : N ≤ wt.heap.size := Nat.le_trans hN hb.size
     replace hs0 : w.heap.size ≤ wt.heap.size := Nat.le_trans hs0 hb.size
     replace hl_R : w.heap.size < wt.heap.size := Nat.lt_of_lt_of_le hl_R hb.size
     clear hb
     have HT1 := Lib.hid hn
     clear hn
     have HT2 := Lib.hid hn'
     clear hn'
     go_wp2_with fail
     refine bodyPost_ret (v := .tuple #[.agg #[.bool (decide ((pv).num < 0)), .slice rt (nlen (pv).num.natAbs) ct, .slice rt2 (nlen (pv).den) ct2], .int .i64 0]) (by simp [results, Tryz.results4, go_sem, k_R_0, k_R_1, k_R_2]) rfl (PsPost.mk' HPM.out HST.out HPV.out ⟨_, _, _, _, rfl, HT1.out.keep ?_, HT2.out.keep ?_, ?_⟩)
     all_goals exact KBA
set_option maxHeartbeats 2000000 in
theorem person_bad {N : Nat} (am ak : Option Addr) (n m cm ck : Nat) (D : MdD) (ks : Nat → Int) (q : Int) (w : World) (hN : N ≤ w.heap.size) (h : Ms w am n cm D) (hk : Is w ak m ck ks) (c : Int) (h0 : c ≠ 0) (hc : chkP D n m ks q = c) (p : Rat) (hp : 0 = p) :
  Calls Tryz.prog 4 #[.slice am n cm, .slice ak m ck, .int .i64 q] w (RcPost N w p c) := by
 replace hp := zero_wh hp
 have HA := Lib.hid h
 have HK := Lib.hid hk
 have HC0 := Lib.hid hc
 have HP := Lib.hid hp
 have z0 : (c == 0) = false := by simpa using h0
 clear h hk hc hp
 have hN0 := hN
 have HB := Lib.hid (Below.refl w.heap.size w)
 go_enter Tryz.func4, Tryz.ntmps4
 go_wp2_with fail
 refine calls_name fun W0 hW => ?_
 have hs_W0 : w.heap.size ≤ W0.heap.size := by rw [← hW]; exact OmT
 have HL_W0 := Lib.hid (show Below w.heap.size w W0 by rw [← hW]; exact BlA)
 have k_R_0 : W0.cell? ⟨w.heap.size, 0, none⟩ = some (.bool false) := by rw [← hW]; exact CeA
 have k_R_1 : W0.cell? ⟨w.heap.size, 1, none⟩ = some (.slice none 0 0) := by rw [← hW]; exact CeA
 have k_R_2 : W0.cell? ⟨w.heap.size, 2, none⟩ = some (.slice none 0 0) := by rw [← hW]; exact CeA
 have f_R : ∀ o, W0.frozen? ⟨w.heap.size, o, none⟩ = false := by intro o; rw [← hW]; exact CeA
 have HX_R := Lib.hid (show Bn W0 (w.heap.size) by rw [← hW]; exact KpA)
 replace HB := Lib.hid (show Below w.heap.size w W0 by rw [← hW]; exact BlA)
 replace hN : N ≤ W0.heap.size := by rw [← hW]; exact OmT
 have hs0 : w.heap.size ≤ W0.heap.size := by rw [← hW]; exact OmT
 have hl_R : w.heap.size < W0.heap.size := by rw [← hW]; exact OmT
 replace HA := Lib.hid (HA.out.below HL_W0.out)
 replace HK := Lib.hid (HK.out.below HL_W0.out)
 clear HL_W0
 clear hW
 refine (checkP_any _ _ n _ m _ D ks _ _ HA.out HK.out).mono ?_
 rw [HC0.out]
 rintro e wa ⟨rfl, hb⟩
 have hs_wa : W0.heap.size ≤ wa.heap.size := hb.size
 replace k_R_0 : wa.cell? ⟨w.heap.size, 0, none⟩ = some (.bool false) := (hb.cell (p := ⟨w.heap.size, 0, none⟩) hl_R).trans k_R_0
 replace k_R_1 : wa.cell? ⟨w.heap.size, 1, none⟩ = some (.slice none 0 0) := (hb.cell (p := ⟨w.heap.size, 1, none⟩) hl_R).trans k_R_1
 replace k_R_2 : wa.cell? ⟨w.heap.size, 2, none⟩ = some (.slice none 0 0) := (hb.cell (p := ⟨w.heap.size, 2, none⟩) hl_R).trans k_R_2
 replace f_R : ∀ o, wa.frozen? ⟨w.heap.size, o, none⟩ = false := fun o => (hb.frozen (p := ⟨w.heap.size, o, none⟩) hl_R).trans (f_R o)
 replace HX_R := Lib.hid (HX_R.out.below hb)
 replace HB := Lib.hid (HB.out.trans (hb.mono hs0))
 replace hN : N ≤ wa.heap.size := Nat.le_trans hN hb.size
 replace hs0 : w.heap.size ≤ wa.heap.size := Nat.le_trans hs0 hb.size
 replace hl_R : w.heap.size < wa.heap.size := Nat.lt_of_lt_of_le hl_R hb.size
 replace HA := Lib.hid (HA.out.below hb)
 replace HK := Lib.hid (HK.out.below hb)
 clear hb
 go_wp2_with fail
 refine (fwhole_any (N := N) 0 _ hN (by omega) (by omega) p HP.out).mono ?_
 rintro e wz ⟨rz, cz, rz2, cz2, rfl, hn, hn', hb⟩
 have hs_wz : wa.heap.size ≤ wz.heap.size := hb.size
 replace k_R_0 : wz.cell? ⟨w.heap.size, 0, none⟩ = some (.bool false) := (hb.cell (p := ⟨w.heap.size, 0, none⟩) hl_R).trans k_R_0
 replace k_R_1 : wz.cell? ⟨w.heap.size, 1, none⟩ = some (.slice none 0 0) := (hb.cell (p := ⟨w.heap.size, 1, none⟩) hl_R).trans k_R_1
 replace k_R_2 : wz.cell? ⟨w.heap.size, 2, none⟩ = some (.slice none 0 0) := (hb.cell (p := ⟨w.heap.size, 2, none⟩) hl_R).trans k_R_2
 replace f_R : ∀ o, wz.frozen? ⟨w.heap.size, o, none⟩ = false := fun o => (hb.frozen (p := ⟨w.heap.size, o, none⟩) hl_R).trans (f_R o)
 replace HX_R := Lib.hid (HX_R.out.below hb)
 replace HB := Lib.hid (HB.out.trans (hb.mono hs0))
 replace hN : N ≤ wz.heap.size := Nat.le_trans hN hb.size
 replace hs0 : w.heap.size ≤ wz.heap.size := Nat.le_trans hs0 hb.size
 replace hl_R : w.heap.size < wz.heap.size := Nat.lt_of_lt_of_le hl_R hb.size
 replace HA := Lib.hid (HA.out.below hb)
 replace HK := Lib.hid (HK.out.below hb)
 clear hb
 have HZ1 := Lib.hid hn
 clear hn
 have HZ2 := Lib.hid hn'
 clear hn'
 go_wp2_with fail
 refine bodyPost_ret (v := .tuple #[.agg #[.bool (decide ((p).num < 0)), .slice rz (nlen (p).num.natAbs) cz, .slice rz2 (nlen (p).den) cz2], .int .i64 c]) (by simp [results, Tryz.results4, go_sem, k_R_0, k_R_1, k_R_2]) rfl ⟨_, _, _, _, rfl, HZ1.out.keep ?_, HZ2.out.keep ?_, ?_⟩
 all_goals exact KBA
end Go.Proofs.YtjobopafcgnljaaGreat
