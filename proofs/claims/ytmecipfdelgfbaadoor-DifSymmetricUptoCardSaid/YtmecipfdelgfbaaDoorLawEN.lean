/- DifNull returns true: the walk. The table of powers of ten must lie in memory. -/
import Derived.Test.YtmecipfdelgfbaaDoorDfI
namespace Go.Proofs.YtmecipfdelgfbaaDoor
open Go.RowKit

/-- small counts -/
def sm6 (t : Nat → Nat → Nat) (n : Nat) : Prop := ∀ i, i < n → ∀ c, c < 4 → t i c ≤ 6
theorem sm6.cnt {t : Nat → Nat → Nat} {n : Nat} (h : sm6 t n) : cntS t n := fun i hi c hc => Nat.le_trans (h i hi c hc) (by omega)
theorem sm6.wd {t : Nat → Nat → Nat} {n : Nat} (h : sm6 t n) : ∀ k, k ≤ n → wdS (ltS t) k ≤ 12 * k
  | 0, _ => Nat.le_refl _
  | k + 1, hk => by
    have h1 := sm6.wd h k (by omega)
    have h2 := h k (by omega) 0 (by omega)
    have h3 := h k (by omega) 1 (by omega)
    simp only [wdS]
    unfold ltS ktS mtS at *
    omega
theorem sm6.sup {t : Nat → Nat → Nat} {n : Nat} (h : sm6 t n) (hn : n ≤ 6) : supS t n ≤ 121 := by
  have := h.wd n (Nat.le_refl _)
  unfold supS; omega
theorem sm6.bk {t : Nat → Nat → Nat} {n : Nat} (h : sm6 t n) : sm6 (bkS t n) n := fun i hi c hc => h (n - 1 - i) (by omega) c hc
theorem sm6.sw {t : Nat → Nat → Nat} {n : Nat} (h : sm6 t n) : sm6 (swS t) n := by
  intro i hi c hc
  have h0 := h i hi 0 (by omega); have h1 := h i hi 1 (by omega); have h2 := h i hi 2 (by omega); have h3 := h i hi 3 (by omega)
  unfold swS
  split
  · exact h2
  · split
    · exact h3
    · split
      · exact h0
      · exact h1
theorem sgn_pos1 (p : Rat) (h : 0 < p) : decide (p.num.sign ≤ 0) = false := by
  have h0 : 0 ≤ p.num := Rat.num_nonneg.2 (Rat.le_of_lt h)
  have h2 : p.num ≠ 0 := fun e => by rw [Rat.num_eq_zero] at e; subst e; exact Rat.lt_irrefl h
  have h1 : 0 < p.num := by omega
  rw [Int.sign_eq_one_of_pos h1]; rfl
theorem sgn_pos (q : Rat) (h : 0 < q) : 0 < q.num.sign := by
  have := of_decide_eq_false (sgn_pos1 q h)
  omega

set_option maxRecDepth 20000 in
set_option maxHeartbeats 8000000 in
theorem difNull_walk {N : Nat} (a : Option Addr) (n cap : Nat) (z : Nat → Nat → Int) (w : World) (hN : N ≤ w.heap.size) (h : Ts w a n cap z) (htab : TabW w) :
    Calls Tryd.prog 5 #[.slice a n cap] w fun e w' => e = .returned (.bool true) ∧ Below w.heap.size w w' := by
  obtain ⟨i0, hi, hzz⟩ := Option.map_eq_some_iff.1 Tryd.infoTab
  simp only [Prod.mk.injEq] at hzz
  obtain ⟨hz0, hz1, hz2⟩ := hzz
  have HA := Lib.hid h
  have HT := Lib.hid htab
  have bc := h.1
  have bm := h.2.1
  unfold maxLen at bm
  clear h htab
  have hN0 := hN
  have HB := Lib.hid (Below.refl w.heap.size w)
  go_enter Tryd.func5, Tryd.ntmps5
  go_wp2_with fail
  refine calls_name fun W0 hW => ?_
  have hs_W0 : w.heap.size ≤ W0.heap.size := by rw [← hW]; (first | omega | (simp; done) | (simp; omega))
  have HL_W0 := Lib.hid (show Below w.heap.size w W0 by rw [← hW]; exact BlA)
  replace HB := Lib.hid (show Below w.heap.size w W0 by rw [← hW]; exact BlA)
  replace hN : N ≤ W0.heap.size := by rw [← hW]; (first | omega | (simp; done) | (simp; omega))
  have hs0 : w.heap.size ≤ W0.heap.size := by rw [← hW]; (first | omega | (simp; done) | (simp; omega))
  replace HA := Lib.hid (HA.out.below HL_W0.out)
  replace HT := Lib.hid (HT.out.below HL_W0.out)
  clear HL_W0
  clear hW
  refine (few_any _ _ _ z _ HA.out).mono ?_
  rintro e wa ⟨p, m, cp, t, rfl, hm6, htz, hbd, hb⟩
  have hs_wa : W0.heap.size ≤ wa.heap.size := hb.size
  replace HB := Lib.hid (HB.out.trans (hb.mono hs0))
  replace hN : N ≤ wa.heap.size := Nat.le_trans hN hb.size
  replace hs0 : w.heap.size ≤ wa.heap.size := Nat.le_trans hs0 hb.size
  replace HA := Lib.hid (HA.out.below hb)
  replace HT := Lib.hid (HT.out.below hb)
  clear hb
  have HTZ := Lib.hid htz
  have pc1 := htz.1
  have pc2 := htz.2.1
  unfold maxLen at pc2
  have HBD := Lib.hid (show sm6 t m from hbd)
  clear htz hbd
  clear HA
  go_wp2_with fail
  go_loopw [4, 5] (fun bv ix wr => ∃ (k : Nat) (a : Int), k ≤ m ∧ ix = .int .i64 a ∧ a + 1 + k = m ∧ Ot wa.heap.size wr bv k (bkS t m) ∧ Below wa.heap.size wa wr) (fun _ ix _ => (intOf ix + 1).toNat)
  case atStart => exact ⟨0, (m : Int) - 1, Nat.zero_le _, rfl, by omega, Ot.start _ _ _, Below.refl _ _⟩
  case round =>
    obtain ⟨k, a, hk, rfl, ha, hot, hbel⟩ := hrel
    have HBw := Lib.hid hbel
    have hsw : wa.heap.size ≤ wr.heap.size := hbel.size
    by_cases hkn : k < m
    · obtain ⟨j, rfl⟩ : ∃ j : Nat, a = (j : Int) := ⟨a.toNat, by omega⟩
      obtain ⟨b, off, hpb, hcc⟩ := (HTZ.out.below hbel).2.2 (by omega)
      obtain ⟨g0, g1, g2, g3⟩ := hcc j (by omega)
      clear hcc
      obtain ⟨x0, ex0⟩ : ∃ x, t j 0 = x := ⟨_, rfl⟩
      rw [ex0] at g0
      have EX0 := Lib.hid (show bkS t m k 0 = x0 by unfold bkS; rw [show m - 1 - k = j by omega]; exact ex0)
      clear ex0
      obtain ⟨x1, ex1⟩ : ∃ x, t j 1 = x := ⟨_, rfl⟩
      rw [ex1] at g1
      have EX1 := Lib.hid (show bkS t m k 1 = x1 by unfold bkS; rw [show m - 1 - k = j by omega]; exact ex1)
      clear ex1
      obtain ⟨x2, ex2⟩ : ∃ x, t j 2 = x := ⟨_, rfl⟩
      rw [ex2] at g2
      have EX2 := Lib.hid (show bkS t m k 2 = x2 by unfold bkS; rw [show m - 1 - k = j by omega]; exact ex2)
      clear ex2
      obtain ⟨x3, ex3⟩ : ∃ x, t j 3 = x := ⟨_, rfl⟩
      rw [ex3] at g3
      have EX3 := Lib.hid (show bkS t m k 3 = x3 by unfold bkS; rw [show m - 1 - k = j by omega]; exact ex3)
      clear ex3
      have hix0 : (0 : Int) ≤ (j : Int) := by omega
      have hix1 : (j : Int) < (m : Int) := by omega
      subst hpb
      obtain ⟨xs, hown, hc4⟩ := hot
      have HO := Lib.hid hown
      have HC4 := Lib.hid hc4
      clear hown hc4 hbel
      go_wp2_with (at_builtin; refine wpList_append_own_at _ rfl (.tmp 29) (.tmp 34) 22 rfl wa.heap.size 50 i0 (.agg #[.int .i64 0, .int .i64 0, .int .i64 0, .int .i64 0]) 4 32 Tryd.underTabs hi hz0 hz1 hz2 rfl (by decide) _ k xs rfl (World.ownsRow.alloc HO.out _) ⟨wr.heap.size, 0, none⟩ 1 1 [.int .i64 ((x0 : Nat) : Int), .int .i64 ((x1 : Nat) : Int), .int .i64 ((x2 : Nat) : Int), .int .i64 ((x3 : Nat) : Int)] (by first | rfl | simp) rfl (cell_four _ _ rfl _ _ _ _ _) (by intro u hu; simp at hu; rcases hu with rfl | rfl | rfl | rfl <;> rfl) (by unfold maxLen; omega) (by omega) (by simp; omega) ?_; intro v2 w2 hm2 hg2 _ hat2; have HO2 := Lib.hid (show Ot wa.heap.size w2 v2 (k + 1) (bkS t m) from ⟨_, hm2, HC4.out.push (by rw [EX0.out]) (by rw [EX1.out]) (by rw [EX2.out]) (by rw [EX3.out])⟩); have HB2 := Lib.hid ((HBw.out.alloc hsw _).grown hg2 (by simp; omega) (fun k hk => (World.ownsRow.lt HO.out k hk).1)); clear hm2 hg2 hat2)
      go_roundw
      case rel => exact ⟨k + 1, (j : Int) - 1, by omega, by first | rfl | go_num, by omega, HO2.out, HB2.out⟩
      case measure => simp [intOf] <;> omega
    · obtain rfl : k = m := by omega
      have ham : a < 0 := by omega
      obtain ⟨p2, cp2, rfl, htz2⟩ := hot.open
      have qc1 := htz2.1
      have qc2 := htz2.2.1
      unfold maxLen at qc2
      have HTB := Lib.hid htz2
      clear htz2 hot
      have hs_wr : wa.heap.size ≤ wr.heap.size := hbel.size
      replace HB := Lib.hid (HB.out.trans (hbel.mono hs0))
      replace hN : N ≤ wr.heap.size := Nat.le_trans hN hbel.size
      replace hs0 : w.heap.size ≤ wr.heap.size := Nat.le_trans hs0 hbel.size
      replace HT := Lib.hid (HT.out.below hbel)
      replace HTZ := Lib.hid (HTZ.out.below hbel)
      clear hbel
      obtain ⟨S, hS⟩ : ∃ S, supS t k = S := ⟨_, rfl⟩
      have HS := Lib.hid hS
      have HSB := Lib.hid ((supS_bk t k).trans hS)
      have hs121 : S ≤ 121 := by rw [← hS]; exact HBD.out.sup hm6
      have HNV := Lib.hid (show valid (nulS t k) S = true by rw [← hS]; exact nulS_valid HBD.out.cnt (HBD.out.sup hm6))
      have HNL := Lib.hid (show ∀ i, i < S → rsz (nulS t k i) ≤ 76 by rw [← hS]; exact nulS_len HBD.out.cnt (by omega) (HBD.out.sup hm6))
      have HNB := Lib.hid (show ∀ i, i < S → nulS (bkS t k) k i = nulS t k i by intro i hi; exact nulS_bk t k i (by rw [hS]; exact hi))
      obtain ⟨P, hP⟩ : ∃ p, tstS t k = p := ⟨_, rfl⟩
      have HPP := Lib.hid hP
      have HPZ := Lib.hid (show rsz P ≤ 9439 by rw [← hP]; exact tstS_rsz HBD.out.cnt (by omega) (HBD.out.sup hm6))
      have HP0 := Lib.hid (show 0 < P by rw [← hP]; exact tstS_pos HBD.out.cnt (HBD.out.sup hm6))
      have HP1 := Lib.hid (show P ≤ 1 by rw [← hP]; exact tstS_le HBD.out.cnt (HBD.out.sup hm6))
      obtain ⟨nu, hnu⟩ : ∃ p, sQ (onmS t) k = p := ⟨_, rfl⟩
      obtain ⟨de, hde⟩ : ∃ p, sQ (odnS t) k = p := ⟨_, rfl⟩
      have HNU := Lib.hid hnu
      have HDE := Lib.hid hde
      have HNU2 := Lib.hid ((onmS_bk t k).trans hnu)
      have HDE2 := Lib.hid ((odnS_bk t k).trans hde)
      obtain ⟨po, hpo⟩ : ∃ p : Rat, mkRat (zI (decide ((1 : Int) < 0) != decide ((1 : Int) < 0)) (1 : Int).natAbs) (1 : Int).natAbs = p := ⟨_, rfl⟩
      have HPO := Lib.hid hpo
      have HO1 := Lib.hid (rat_one po hpo)
      have HOZ := Lib.hid (show rsz po ≤ 1 by rw [rat_one po hpo]; exact rsz_one)
      obtain ⟨σ, hσ⟩ : ∃ σ, P.num.sign = σ := ⟨_, rfl⟩
      have HSG := Lib.hid hσ
      have hσ0 : 0 < σ := by rw [← hσ]; exact sgn_pos P HP0.out
      obtain ⟨κ, hκ⟩ : ∃ κ, cmpQ P po = κ := ⟨_, rfl⟩
      have HK := Lib.hid hκ
      have hκ0 : κ ≤ 0 := by rw [← hκ]; exact of_decide_eq_true ((cmp_le P po).trans (decide_eq_true (by rw [HO1.out]; exact HP1.out)))
      clear hS hP hnu hde hpo hσ hκ
      go_wp2_with fail
      refine calls_name fun W1 hW => ?_
      have hs_W1 : wr.heap.size ≤ W1.heap.size := by rw [← hW]; (first | omega | (simp; done) | (simp; omega))
      have HL_W1 := Lib.hid (show Below wr.heap.size wr W1 by rw [← hW]; exact BlA)
      replace HB := Lib.hid (show Below w.heap.size w W1 by rw [← hW]; exact BlA)
      replace hN : N ≤ W1.heap.size := by rw [← hW]; (first | omega | (simp; done) | (simp; omega))
      replace hs0 : w.heap.size ≤ W1.heap.size := by rw [← hW]; (first | omega | (simp; done) | (simp; omega))
      replace HT := Lib.hid (HT.out.below HL_W1.out)
      replace HTZ := Lib.hid (HTZ.out.below HL_W1.out)
      replace HTB := Lib.hid (HTB.out.below HL_W1.out)
      clear HL_W1
      clear hW
      refine (null_ok (N := N) _ k _ t _ hN HTZ.out (by omega) HBD.out.cnt S HS.out hs121).mono ?_
      rintro e wb ⟨b1, rfl, hb1, hb2, hl, hb⟩
      have hs_wb : W1.heap.size ≤ wb.heap.size := hb.size
      replace HB := Lib.hid (HB.out.trans (hb.mono hs0))
      replace hN : N ≤ wb.heap.size := Nat.le_trans hN hb.size
      replace hs0 : w.heap.size ≤ wb.heap.size := Nat.le_trans hs0 hb.size
      replace HT := Lib.hid (HT.out.below hb)
      replace HTZ := Lib.hid (HTZ.out.below hb)
      replace HTB := Lib.hid (HTB.out.below hb)
      clear hb
      have HD1 := Lib.hid hl
      clear hl
      go_wp2_with fail
      refine calls_name fun W2 hW => ?_
      have hs_W2 : wb.heap.size ≤ W2.heap.size := by rw [← hW]; (first | omega | (simp; done) | (simp; omega))
      have HL_W2 := Lib.hid (show Below wb.heap.size wb W2 by rw [← hW]; exact BlA)
      replace HB := Lib.hid (show Below w.heap.size w W2 by rw [← hW]; exact BlA)
      replace hN : N ≤ W2.heap.size := by rw [← hW]; (first | omega | (simp; done) | (simp; omega))
      replace hs0 : w.heap.size ≤ W2.heap.size := by rw [← hW]; (first | omega | (simp; done) | (simp; omega))
      replace HD1 := Lib.hid (HD1.out.below HL_W2.out)
      replace HT := Lib.hid (HT.out.below HL_W2.out)
      replace HTZ := Lib.hid (HTZ.out.below HL_W2.out)
      replace HTB := Lib.hid (HTB.out.below HL_W2.out)
      clear HL_W2
      clear hW
      have lt_HD1 := HD1.out.lt
      refine (null_ok (N := N) _ k _ (bkS t k) _ hN HTB.out (by omega) HBD.out.bk.cnt S HSB.out hs121).mono ?_
      rintro e wc ⟨b2, rfl, hb3, hb4, hl, hb⟩
      have hs_wc : W2.heap.size ≤ wc.heap.size := hb.size
      replace HB := Lib.hid (HB.out.trans (hb.mono hs0))
      replace hN : N ≤ wc.heap.size := Nat.le_trans hN hb.size
      replace hs0 : w.heap.size ≤ wc.heap.size := Nat.le_trans hs0 hb.size
      replace HD1 := Lib.hid (HD1.out.below hb)
      replace HT := Lib.hid (HT.out.below hb)
      replace HTZ := Lib.hid (HTZ.out.below hb)
      replace HTB := Lib.hid (HTB.out.below hb)
      clear hb
      have HD2 := Lib.hid (hl.congr HNB.out)
      clear hl
      go_wp2_with fail
      refine calls_name fun W3 hW => ?_
      have hs_W3 : wc.heap.size ≤ W3.heap.size := by rw [← hW]; (first | omega | (simp; done) | (simp; omega))
      have HL_W3 := Lib.hid (show Below wc.heap.size wc W3 by rw [← hW]; exact BlA)
      replace HB := Lib.hid (show Below w.heap.size w W3 by rw [← hW]; exact BlA)
      replace hN : N ≤ W3.heap.size := by rw [← hW]; (first | omega | (simp; done) | (simp; omega))
      replace hs0 : w.heap.size ≤ W3.heap.size := by rw [← hW]; (first | omega | (simp; done) | (simp; omega))
      replace HD1 := Lib.hid (HD1.out.below HL_W3.out)
      replace HD2 := Lib.hid (HD2.out.below HL_W3.out)
      replace HT := Lib.hid (HT.out.below HL_W3.out)
      replace HTZ := Lib.hid (HTZ.out.below HL_W3.out)
      replace HTB := Lib.hid (HTB.out.below HL_W3.out)
      clear HL_W3
      clear hW
      have lt_HD1 := HD1.out.lt
      have lt_HD2 := HD2.out.lt
      refine (test_ok (N := N) _ k _ t _ hN HTZ.out (by omega) HBD.out.cnt (HBD.out.sup hm6) P HPP.out).mono ?_
      rintro e wd ⟨rt, ct, rt2, ct2, rfl, hn, hn', hb⟩
      have hs_wd : W3.heap.size ≤ wd.heap.size := hb.size
      replace HB := Lib.hid (HB.out.trans (hb.mono hs0))
      replace hN : N ≤ wd.heap.size := Nat.le_trans hN hb.size
      replace hs0 : w.heap.size ≤ wd.heap.size := Nat.le_trans hs0 hb.size
      replace HD1 := Lib.hid (HD1.out.below hb)
      replace HD2 := Lib.hid (HD2.out.below hb)
      replace HT := Lib.hid (HT.out.below hb)
      replace HTZ := Lib.hid (HTZ.out.below hb)
      replace HTB := Lib.hid (HTB.out.below hb)
      clear hb
      have HPA := Lib.hid hn
      clear hn
      have HPB := Lib.hid hn'
      clear hn'
      go_wp2_with fail
      refine calls_name fun W4 hW => ?_
      have hs_W4 : wd.heap.size ≤ W4.heap.size := by rw [← hW]; (first | omega | (simp; done) | (simp; omega))
      have HK_W4 := Lib.hid (show Kp N wd W4 by rw [← hW]; exact KpA)
      have HL_W4 := Lib.hid (show Below wd.heap.size wd W4 by rw [← hW]; exact BlA)
      have k_P_0 : W4.cell? ⟨wd.heap.size, 0, none⟩ = some (.bool (decide ((P).num < 0))) := by rw [← hW]; (first | (go_simp; done) | (simp; done) | (simp [go_sem]; done) | (simp [go_sem]; done))
      have k_P_1 : W4.cell? ⟨wd.heap.size, 1, none⟩ = some (.slice rt (nlen (P).num.natAbs) ct) := by rw [← hW]; (first | (go_simp; done) | (simp; done) | (simp [go_sem]; done) | (simp [go_sem]; done))
      have k_P_2 : W4.cell? ⟨wd.heap.size, 2, none⟩ = some (.slice rt2 (nlen (P).den) ct2) := by rw [← hW]; (first | (go_simp; done) | (simp; done) | (simp [go_sem]; done) | (simp [go_sem]; done))
      have f_P : ∀ o, W4.frozen? ⟨wd.heap.size, o, none⟩ = false := by intro o; rw [← hW]; (first | (go_simp; done) | (simp; done) | (simp [go_sem]; done) | (simp [go_sem]; done))
      have HX_P := Lib.hid (show Bn W4 (wd.heap.size) by rw [← hW]; exact KpA)
      replace HPA := Lib.hid (HPA.out.keep HK_W4.out)
      replace HPB := Lib.hid (HPB.out.keep HK_W4.out)
      replace HB := Lib.hid (show Below w.heap.size w W4 by rw [← hW]; exact BlA)
      replace hN : N ≤ W4.heap.size := by rw [← hW]; (first | omega | (simp; done) | (simp; omega))
      replace hs0 : w.heap.size ≤ W4.heap.size := by rw [← hW]; (first | omega | (simp; done) | (simp; omega))
      have hl_P : wd.heap.size < W4.heap.size := by rw [← hW]; (first | omega | (simp; done) | (simp; omega))
      replace HD1 := Lib.hid (HD1.out.below HL_W4.out)
      replace HD2 := Lib.hid (HD2.out.below HL_W4.out)
      replace HT := Lib.hid (HT.out.below HL_W4.out)
      replace HTZ := Lib.hid (HTZ.out.below HL_W4.out)
      replace HTB := Lib.hid (HTB.out.below HL_W4.out)
      clear HL_W4
      clear hW HK_W4
      have lt_HD1 := HD1.out.lt
      have lt_HD2 := HD2.out.lt
      refine (rof_any (N := N) 1 1 _ hN (by decide) (by decide) (by decide) (by decide) po HPO.out).mono ?_
      rintro e we ⟨ro, co, ro2, co2, rfl, hn, hn', hb⟩
      have hs_we : W4.heap.size ≤ we.heap.size := hb.size
      replace k_P_0 : we.cell? ⟨wd.heap.size, 0, none⟩ = some (.bool (decide ((P).num < 0))) := (hb.cell (p := ⟨wd.heap.size, 0, none⟩) hl_P).trans k_P_0
      replace k_P_1 : we.cell? ⟨wd.heap.size, 1, none⟩ = some (.slice rt (nlen (P).num.natAbs) ct) := (hb.cell (p := ⟨wd.heap.size, 1, none⟩) hl_P).trans k_P_1
      replace k_P_2 : we.cell? ⟨wd.heap.size, 2, none⟩ = some (.slice rt2 (nlen (P).den) ct2) := (hb.cell (p := ⟨wd.heap.size, 2, none⟩) hl_P).trans k_P_2
      replace f_P : ∀ o, we.frozen? ⟨wd.heap.size, o, none⟩ = false := fun o => (hb.frozen (p := ⟨wd.heap.size, o, none⟩) hl_P).trans (f_P o)
      replace HX_P := Lib.hid (HX_P.out.below hb)
      replace HPA := Lib.hid (HPA.out.below hb)
      replace HPB := Lib.hid (HPB.out.below hb)
      replace HB := Lib.hid (HB.out.trans (hb.mono hs0))
      replace hN : N ≤ we.heap.size := Nat.le_trans hN hb.size
      replace hs0 : w.heap.size ≤ we.heap.size := Nat.le_trans hs0 hb.size
      replace hl_P : wd.heap.size < we.heap.size := Nat.lt_of_lt_of_le hl_P hb.size
      replace HD1 := Lib.hid (HD1.out.below hb)
      replace HD2 := Lib.hid (HD2.out.below hb)
      replace HT := Lib.hid (HT.out.below hb)
      replace HTZ := Lib.hid (HTZ.out.below hb)
      replace HTB := Lib.hid (HTB.out.below hb)
      clear hb
      have HOA := Lib.hid hn
      clear hn
      have HOB := Lib.hid hn'
      clear hn'
      go_wp2_with fail
      refine calls_name fun W5 hW => ?_
      have HL_W5 := Lib.hid (show Below we.heap.size we W5 by rw [← hW]; exact BlA)
      have hs_W5 : we.heap.size ≤ W5.heap.size := by rw [← hW]; (first | omega | (simp; done) | (simp; omega))
      have hd_P_O : wd.heap.size < we.heap.size := by omega
      have HK_W5 := Lib.hid (show Kp N we W5 by rw [← hW]; exact KpA)
      replace k_P_0 : W5.cell? ⟨wd.heap.size, 0, none⟩ = some (.bool (decide ((P).num < 0))) := (HL_W5.out.cell (p := ⟨wd.heap.size, 0, none⟩) hl_P).trans k_P_0
      replace k_P_1 : W5.cell? ⟨wd.heap.size, 1, none⟩ = some (.slice rt (nlen (P).num.natAbs) ct) := (HL_W5.out.cell (p := ⟨wd.heap.size, 1, none⟩) hl_P).trans k_P_1
      replace k_P_2 : W5.cell? ⟨wd.heap.size, 2, none⟩ = some (.slice rt2 (nlen (P).den) ct2) := (HL_W5.out.cell (p := ⟨wd.heap.size, 2, none⟩) hl_P).trans k_P_2
      replace f_P : ∀ o, W5.frozen? ⟨wd.heap.size, o, none⟩ = false := fun o => (HL_W5.out.frozen (p := ⟨wd.heap.size, o, none⟩) hl_P).trans (f_P o)
      replace HX_P := Lib.hid (show Bn W5 (wd.heap.size) by rw [← hW]; exact KpA)
      have k_O_0 : W5.cell? ⟨we.heap.size, 0, none⟩ = some (.bool (decide ((po).num < 0))) := by rw [← hW]; (first | (go_simp; done) | (simp; done) | (simp [go_sem]; done) | (simp [go_sem, k_P_0, k_P_1, k_P_2, f_P, hl_P]; done))
      have k_O_1 : W5.cell? ⟨we.heap.size, 1, none⟩ = some (.slice ro (nlen (po).num.natAbs) co) := by rw [← hW]; (first | (go_simp; done) | (simp; done) | (simp [go_sem]; done) | (simp [go_sem, k_P_0, k_P_1, k_P_2, f_P, hl_P]; done))
      have k_O_2 : W5.cell? ⟨we.heap.size, 2, none⟩ = some (.slice ro2 (nlen (po).den) co2) := by rw [← hW]; (first | (go_simp; done) | (simp; done) | (simp [go_sem]; done) | (simp [go_sem, k_P_0, k_P_1, k_P_2, f_P, hl_P]; done))
      have f_O : ∀ o, W5.frozen? ⟨we.heap.size, o, none⟩ = false := by intro o; rw [← hW]; (first | (go_simp; done) | (simp; done) | (simp [go_sem]; done) | (simp [go_sem, k_P_0, k_P_1, k_P_2, f_P, hl_P]; done))
      have HX_O := Lib.hid (show Bn W5 (we.heap.size) by rw [← hW]; exact KpA)
      replace HPA := Lib.hid (HPA.out.keep HK_W5.out)
      replace HPB := Lib.hid (HPB.out.keep HK_W5.out)
      replace HOA := Lib.hid (HOA.out.keep HK_W5.out)
      replace HOB := Lib.hid (HOB.out.keep HK_W5.out)
      replace HB := Lib.hid (show Below w.heap.size w W5 by rw [← hW]; exact BlA)
      replace hN : N ≤ W5.heap.size := by rw [← hW]; (first | omega | (simp; done) | (simp; omega))
      replace hs0 : w.heap.size ≤ W5.heap.size := by rw [← hW]; (first | omega | (simp; done) | (simp; omega))
      replace hl_P : wd.heap.size < W5.heap.size := by rw [← hW]; (first | omega | (simp; done) | (simp; omega))
      have hl_O : we.heap.size < W5.heap.size := by rw [← hW]; (first | omega | (simp; done) | (simp; omega))
      replace HD1 := Lib.hid (HD1.out.below HL_W5.out)
      replace HD2 := Lib.hid (HD2.out.below HL_W5.out)
      replace HT := Lib.hid (HT.out.below HL_W5.out)
      replace HTZ := Lib.hid (HTZ.out.below HL_W5.out)
      replace HTB := Lib.hid (HTB.out.below HL_W5.out)
      clear HL_W5
      clear hW HK_W5
      have lt_HD1 := HD1.out.lt
      have lt_HD2 := HD2.out.lt
      refine (Valid_any (N := N) _ S S (nulS t k) 76 _ hN (HD1.out.rs (by unfold maxLen; omega) 76 HNL.out) (by decide) true HNV.out).mono ?_
      rintro e wf ⟨rfl, hb⟩
      have hs_wf : W5.heap.size ≤ wf.heap.size := hb.size
      replace k_P_0 : wf.cell? ⟨wd.heap.size, 0, none⟩ = some (.bool (decide ((P).num < 0))) := (hb.cell (p := ⟨wd.heap.size, 0, none⟩) hl_P).trans k_P_0
      replace k_P_1 : wf.cell? ⟨wd.heap.size, 1, none⟩ = some (.slice rt (nlen (P).num.natAbs) ct) := (hb.cell (p := ⟨wd.heap.size, 1, none⟩) hl_P).trans k_P_1
      replace k_P_2 : wf.cell? ⟨wd.heap.size, 2, none⟩ = some (.slice rt2 (nlen (P).den) ct2) := (hb.cell (p := ⟨wd.heap.size, 2, none⟩) hl_P).trans k_P_2
      replace f_P : ∀ o, wf.frozen? ⟨wd.heap.size, o, none⟩ = false := fun o => (hb.frozen (p := ⟨wd.heap.size, o, none⟩) hl_P).trans (f_P o)
      replace HX_P := Lib.hid (HX_P.out.below hb)
      replace k_O_0 : wf.cell? ⟨we.heap.size, 0, none⟩ = some (.bool (decide ((po).num < 0))) := (hb.cell (p := ⟨we.heap.size, 0, none⟩) hl_O).trans k_O_0
      replace k_O_1 : wf.cell? ⟨we.heap.size, 1, none⟩ = some (.slice ro (nlen (po).num.natAbs) co) := (hb.cell (p := ⟨we.heap.size, 1, none⟩) hl_O).trans k_O_1
      replace k_O_2 : wf.cell? ⟨we.heap.size, 2, none⟩ = some (.slice ro2 (nlen (po).den) co2) := (hb.cell (p := ⟨we.heap.size, 2, none⟩) hl_O).trans k_O_2
      replace f_O : ∀ o, wf.frozen? ⟨we.heap.size, o, none⟩ = false := fun o => (hb.frozen (p := ⟨we.heap.size, o, none⟩) hl_O).trans (f_O o)
      replace HX_O := Lib.hid (HX_O.out.below hb)
      replace HPA := Lib.hid (HPA.out.below hb)
      replace HPB := Lib.hid (HPB.out.below hb)
      replace HOA := Lib.hid (HOA.out.below hb)
      replace HOB := Lib.hid (HOB.out.below hb)
      replace HB := Lib.hid (HB.out.trans (hb.mono hs0))
      replace hN : N ≤ wf.heap.size := Nat.le_trans hN hb.size
      replace hs0 : w.heap.size ≤ wf.heap.size := Nat.le_trans hs0 hb.size
      replace hl_P : wd.heap.size < wf.heap.size := Nat.lt_of_lt_of_le hl_P hb.size
      replace hl_O : we.heap.size < wf.heap.size := Nat.lt_of_lt_of_le hl_O hb.size
      replace HD1 := Lib.hid (HD1.out.below hb)
      replace HD2 := Lib.hid (HD2.out.below hb)
      replace HT := Lib.hid (HT.out.below hb)
      replace HTZ := Lib.hid (HTZ.out.below hb)
      replace HTB := Lib.hid (HTB.out.below hb)
      clear hb
      go_wp2_with fail
      refine calls_name fun W6 hW => ?_
      have HL_W6 := Lib.hid (show Below wf.heap.size wf W6 by rw [← hW]; exact BlA)
      have hs_W6 : wf.heap.size ≤ W6.heap.size := by rw [← hW]; (first | omega | (simp; done) | (simp; omega))
      have HK_W6 := Lib.hid (show Kp N wf W6 by rw [← hW]; exact KpA)
      replace k_P_0 : W6.cell? ⟨wd.heap.size, 0, none⟩ = some (.bool (decide ((P).num < 0))) := (HL_W6.out.cell (p := ⟨wd.heap.size, 0, none⟩) hl_P).trans k_P_0
      replace k_P_1 : W6.cell? ⟨wd.heap.size, 1, none⟩ = some (.slice rt (nlen (P).num.natAbs) ct) := (HL_W6.out.cell (p := ⟨wd.heap.size, 1, none⟩) hl_P).trans k_P_1
      replace k_P_2 : W6.cell? ⟨wd.heap.size, 2, none⟩ = some (.slice rt2 (nlen (P).den) ct2) := (HL_W6.out.cell (p := ⟨wd.heap.size, 2, none⟩) hl_P).trans k_P_2
      replace f_P : ∀ o, W6.frozen? ⟨wd.heap.size, o, none⟩ = false := fun o => (HL_W6.out.frozen (p := ⟨wd.heap.size, o, none⟩) hl_P).trans (f_P o)
      replace HX_P := Lib.hid (show Bn W6 (wd.heap.size) by rw [← hW]; exact KpA)
      replace k_O_0 : W6.cell? ⟨we.heap.size, 0, none⟩ = some (.bool (decide ((po).num < 0))) := (HL_W6.out.cell (p := ⟨we.heap.size, 0, none⟩) hl_O).trans k_O_0
      replace k_O_1 : W6.cell? ⟨we.heap.size, 1, none⟩ = some (.slice ro (nlen (po).num.natAbs) co) := (HL_W6.out.cell (p := ⟨we.heap.size, 1, none⟩) hl_O).trans k_O_1
      replace k_O_2 : W6.cell? ⟨we.heap.size, 2, none⟩ = some (.slice ro2 (nlen (po).den) co2) := (HL_W6.out.cell (p := ⟨we.heap.size, 2, none⟩) hl_O).trans k_O_2
      replace f_O : ∀ o, W6.frozen? ⟨we.heap.size, o, none⟩ = false := fun o => (HL_W6.out.frozen (p := ⟨we.heap.size, o, none⟩) hl_O).trans (f_O o)
      replace HX_O := Lib.hid (show Bn W6 (we.heap.size) by rw [← hW]; exact KpA)
      replace HPA := Lib.hid (HPA.out.keep HK_W6.out)
      replace HPB := Lib.hid (HPB.out.keep HK_W6.out)
      replace HOA := Lib.hid (HOA.out.keep HK_W6.out)
      replace HOB := Lib.hid (HOB.out.keep HK_W6.out)
      replace HB := Lib.hid (show Below w.heap.size w W6 by rw [← hW]; exact BlA)
      replace hN : N ≤ W6.heap.size := by rw [← hW]; (first | omega | (simp; done) | (simp; omega))
      replace hs0 : w.heap.size ≤ W6.heap.size := by rw [← hW]; (first | omega | (simp; done) | (simp; omega))
      replace hl_P : wd.heap.size < W6.heap.size := by rw [← hW]; (first | omega | (simp; done) | (simp; omega))
      replace hl_O : we.heap.size < W6.heap.size := by rw [← hW]; (first | omega | (simp; done) | (simp; omega))
      replace HD1 := Lib.hid (HD1.out.below HL_W6.out)
      replace HD2 := Lib.hid (HD2.out.below HL_W6.out)
      replace HT := Lib.hid (HT.out.below HL_W6.out)
      replace HTZ := Lib.hid (HTZ.out.below HL_W6.out)
      replace HTB := Lib.hid (HTB.out.below HL_W6.out)
      clear HL_W6
      clear hW HK_W6
      have lt_HD1 := HD1.out.lt
      have lt_HD2 := HD2.out.lt
      refine (equals30_any (N := N) b1 b2 S (nulS t k) _ hN (by omega) HD1.out HD2.out).mono ?_
      rintro e wg ⟨rfl, hb⟩
      have hs_wg : W6.heap.size ≤ wg.heap.size := hb.size
      replace k_P_0 : wg.cell? ⟨wd.heap.size, 0, none⟩ = some (.bool (decide ((P).num < 0))) := (hb.cell (p := ⟨wd.heap.size, 0, none⟩) hl_P).trans k_P_0
      replace k_P_1 : wg.cell? ⟨wd.heap.size, 1, none⟩ = some (.slice rt (nlen (P).num.natAbs) ct) := (hb.cell (p := ⟨wd.heap.size, 1, none⟩) hl_P).trans k_P_1
      replace k_P_2 : wg.cell? ⟨wd.heap.size, 2, none⟩ = some (.slice rt2 (nlen (P).den) ct2) := (hb.cell (p := ⟨wd.heap.size, 2, none⟩) hl_P).trans k_P_2
      replace f_P : ∀ o, wg.frozen? ⟨wd.heap.size, o, none⟩ = false := fun o => (hb.frozen (p := ⟨wd.heap.size, o, none⟩) hl_P).trans (f_P o)
      replace HX_P := Lib.hid (HX_P.out.below hb)
      replace k_O_0 : wg.cell? ⟨we.heap.size, 0, none⟩ = some (.bool (decide ((po).num < 0))) := (hb.cell (p := ⟨we.heap.size, 0, none⟩) hl_O).trans k_O_0
      replace k_O_1 : wg.cell? ⟨we.heap.size, 1, none⟩ = some (.slice ro (nlen (po).num.natAbs) co) := (hb.cell (p := ⟨we.heap.size, 1, none⟩) hl_O).trans k_O_1
      replace k_O_2 : wg.cell? ⟨we.heap.size, 2, none⟩ = some (.slice ro2 (nlen (po).den) co2) := (hb.cell (p := ⟨we.heap.size, 2, none⟩) hl_O).trans k_O_2
      replace f_O : ∀ o, wg.frozen? ⟨we.heap.size, o, none⟩ = false := fun o => (hb.frozen (p := ⟨we.heap.size, o, none⟩) hl_O).trans (f_O o)
      replace HX_O := Lib.hid (HX_O.out.below hb)
      replace HPA := Lib.hid (HPA.out.below hb)
      replace HPB := Lib.hid (HPB.out.below hb)
      replace HOA := Lib.hid (HOA.out.below hb)
      replace HOB := Lib.hid (HOB.out.below hb)
      replace HB := Lib.hid (HB.out.trans (hb.mono hs0))
      replace hN : N ≤ wg.heap.size := Nat.le_trans hN hb.size
      replace hs0 : w.heap.size ≤ wg.heap.size := Nat.le_trans hs0 hb.size
      replace hl_P : wd.heap.size < wg.heap.size := Nat.lt_of_lt_of_le hl_P hb.size
      replace hl_O : we.heap.size < wg.heap.size := Nat.lt_of_lt_of_le hl_O hb.size
      replace HD1 := Lib.hid (HD1.out.below hb)
      replace HD2 := Lib.hid (HD2.out.below hb)
      replace HT := Lib.hid (HT.out.below hb)
      replace HTZ := Lib.hid (HTZ.out.below hb)
      replace HTB := Lib.hid (HTB.out.below hb)
      clear hb
      clear HD1
      clear HD2
      go_wp2_with fail
      refine calls_name fun W7 hW => ?_
      have HL_W7 := Lib.hid (show Below wg.heap.size wg W7 by rw [← hW]; exact BlA)
      have hs_W7 : wg.heap.size ≤ W7.heap.size := by rw [← hW]; (first | omega | (simp; done) | (simp; omega))
      have HK_W7 := Lib.hid (show Kp N wg W7 by rw [← hW]; exact KpA)
      replace k_P_0 : W7.cell? ⟨wd.heap.size, 0, none⟩ = some (.bool (decide ((P).num < 0))) := (HL_W7.out.cell (p := ⟨wd.heap.size, 0, none⟩) hl_P).trans k_P_0
      replace k_P_1 : W7.cell? ⟨wd.heap.size, 1, none⟩ = some (.slice rt (nlen (P).num.natAbs) ct) := (HL_W7.out.cell (p := ⟨wd.heap.size, 1, none⟩) hl_P).trans k_P_1
      replace k_P_2 : W7.cell? ⟨wd.heap.size, 2, none⟩ = some (.slice rt2 (nlen (P).den) ct2) := (HL_W7.out.cell (p := ⟨wd.heap.size, 2, none⟩) hl_P).trans k_P_2
      replace f_P : ∀ o, W7.frozen? ⟨wd.heap.size, o, none⟩ = false := fun o => (HL_W7.out.frozen (p := ⟨wd.heap.size, o, none⟩) hl_P).trans (f_P o)
      replace HX_P := Lib.hid (show Bn W7 (wd.heap.size) by rw [← hW]; exact KpA)
      replace k_O_0 : W7.cell? ⟨we.heap.size, 0, none⟩ = some (.bool (decide ((po).num < 0))) := (HL_W7.out.cell (p := ⟨we.heap.size, 0, none⟩) hl_O).trans k_O_0
      replace k_O_1 : W7.cell? ⟨we.heap.size, 1, none⟩ = some (.slice ro (nlen (po).num.natAbs) co) := (HL_W7.out.cell (p := ⟨we.heap.size, 1, none⟩) hl_O).trans k_O_1
      replace k_O_2 : W7.cell? ⟨we.heap.size, 2, none⟩ = some (.slice ro2 (nlen (po).den) co2) := (HL_W7.out.cell (p := ⟨we.heap.size, 2, none⟩) hl_O).trans k_O_2
      replace f_O : ∀ o, W7.frozen? ⟨we.heap.size, o, none⟩ = false := fun o => (HL_W7.out.frozen (p := ⟨we.heap.size, o, none⟩) hl_O).trans (f_O o)
      replace HX_O := Lib.hid (show Bn W7 (we.heap.size) by rw [← hW]; exact KpA)
      replace HPA := Lib.hid (HPA.out.keep HK_W7.out)
      replace HPB := Lib.hid (HPB.out.keep HK_W7.out)
      replace HOA := Lib.hid (HOA.out.keep HK_W7.out)
      replace HOB := Lib.hid (HOB.out.keep HK_W7.out)
      replace HB := Lib.hid (show Below w.heap.size w W7 by rw [← hW]; exact BlA)
      replace hN : N ≤ W7.heap.size := by rw [← hW]; (first | omega | (simp; done) | (simp; omega))
      replace hs0 : w.heap.size ≤ W7.heap.size := by rw [← hW]; (first | omega | (simp; done) | (simp; omega))
      replace hl_P : wd.heap.size < W7.heap.size := by rw [← hW]; (first | omega | (simp; done) | (simp; omega))
      replace hl_O : we.heap.size < W7.heap.size := by rw [← hW]; (first | omega | (simp; done) | (simp; omega))
      replace HT := Lib.hid (HT.out.below HL_W7.out)
      replace HTZ := Lib.hid (HTZ.out.below HL_W7.out)
      replace HTB := Lib.hid (HTB.out.below HL_W7.out)
      clear HL_W7
      clear hW HK_W7
      refine (odds_ok (N := N) _ k _ t _ hN HTZ.out (by omega) HBD.out.cnt nu de HNU.out HDE.out).mono ?_
      rintro e wh ⟨ru, cu, ru2, cu2, rv, cv, rv2, cv2, rfl, hn1, hn2, hm1, hm2, hb⟩
      have hs_wh : W7.heap.size ≤ wh.heap.size := hb.size
      replace k_P_0 : wh.cell? ⟨wd.heap.size, 0, none⟩ = some (.bool (decide ((P).num < 0))) := (hb.cell (p := ⟨wd.heap.size, 0, none⟩) hl_P).trans k_P_0
      replace k_P_1 : wh.cell? ⟨wd.heap.size, 1, none⟩ = some (.slice rt (nlen (P).num.natAbs) ct) := (hb.cell (p := ⟨wd.heap.size, 1, none⟩) hl_P).trans k_P_1
      replace k_P_2 : wh.cell? ⟨wd.heap.size, 2, none⟩ = some (.slice rt2 (nlen (P).den) ct2) := (hb.cell (p := ⟨wd.heap.size, 2, none⟩) hl_P).trans k_P_2
      replace f_P : ∀ o, wh.frozen? ⟨wd.heap.size, o, none⟩ = false := fun o => (hb.frozen (p := ⟨wd.heap.size, o, none⟩) hl_P).trans (f_P o)
      replace HX_P := Lib.hid (HX_P.out.below hb)
      replace k_O_0 : wh.cell? ⟨we.heap.size, 0, none⟩ = some (.bool (decide ((po).num < 0))) := (hb.cell (p := ⟨we.heap.size, 0, none⟩) hl_O).trans k_O_0
      replace k_O_1 : wh.cell? ⟨we.heap.size, 1, none⟩ = some (.slice ro (nlen (po).num.natAbs) co) := (hb.cell (p := ⟨we.heap.size, 1, none⟩) hl_O).trans k_O_1
      replace k_O_2 : wh.cell? ⟨we.heap.size, 2, none⟩ = some (.slice ro2 (nlen (po).den) co2) := (hb.cell (p := ⟨we.heap.size, 2, none⟩) hl_O).trans k_O_2
      replace f_O : ∀ o, wh.frozen? ⟨we.heap.size, o, none⟩ = false := fun o => (hb.frozen (p := ⟨we.heap.size, o, none⟩) hl_O).trans (f_O o)
      replace HX_O := Lib.hid (HX_O.out.below hb)
      replace HPA := Lib.hid (HPA.out.below hb)
      replace HPB := Lib.hid (HPB.out.below hb)
      replace HOA := Lib.hid (HOA.out.below hb)
      replace HOB := Lib.hid (HOB.out.below hb)
      replace HB := Lib.hid (HB.out.trans (hb.mono hs0))
      replace hN : N ≤ wh.heap.size := Nat.le_trans hN hb.size
      replace hs0 : w.heap.size ≤ wh.heap.size := Nat.le_trans hs0 hb.size
      replace hl_P : wd.heap.size < wh.heap.size := Nat.lt_of_lt_of_le hl_P hb.size
      replace hl_O : we.heap.size < wh.heap.size := Nat.lt_of_lt_of_le hl_O hb.size
      replace HT := Lib.hid (HT.out.below hb)
      replace HTZ := Lib.hid (HTZ.out.below hb)
      replace HTB := Lib.hid (HTB.out.below hb)
      clear hb
      have HU1 := Lib.hid hn1
      clear hn1
      have HU2 := Lib.hid hn2
      clear hn2
      have HV1 := Lib.hid hm1
      clear hm1
      have HV2 := Lib.hid hm2
      clear hm2
      go_wp2_with fail
      refine calls_name fun W8 hW => ?_
      have HL_W8 := Lib.hid (show Below wh.heap.size wh W8 by rw [← hW]; exact BlA)
      have hs_W8 : wh.heap.size ≤ W8.heap.size := by rw [← hW]; (first | omega | (simp; done) | (simp; omega))
      have hd_P_U : wd.heap.size < wh.heap.size := by omega
      have hd_O_U : we.heap.size < wh.heap.size := by omega
      have hd_P_V : wd.heap.size < wh.heap.size + 1 := by omega
      have hd_O_V : we.heap.size < wh.heap.size + 1 := by omega
      have HK_W8 := Lib.hid (show Kp N wh W8 by rw [← hW]; exact KpA)
      replace k_P_0 : W8.cell? ⟨wd.heap.size, 0, none⟩ = some (.bool (decide ((P).num < 0))) := (HL_W8.out.cell (p := ⟨wd.heap.size, 0, none⟩) hl_P).trans k_P_0
      replace k_P_1 : W8.cell? ⟨wd.heap.size, 1, none⟩ = some (.slice rt (nlen (P).num.natAbs) ct) := (HL_W8.out.cell (p := ⟨wd.heap.size, 1, none⟩) hl_P).trans k_P_1
      replace k_P_2 : W8.cell? ⟨wd.heap.size, 2, none⟩ = some (.slice rt2 (nlen (P).den) ct2) := (HL_W8.out.cell (p := ⟨wd.heap.size, 2, none⟩) hl_P).trans k_P_2
      replace f_P : ∀ o, W8.frozen? ⟨wd.heap.size, o, none⟩ = false := fun o => (HL_W8.out.frozen (p := ⟨wd.heap.size, o, none⟩) hl_P).trans (f_P o)
      replace HX_P := Lib.hid (show Bn W8 (wd.heap.size) by rw [← hW]; exact KpA)
      replace k_O_0 : W8.cell? ⟨we.heap.size, 0, none⟩ = some (.bool (decide ((po).num < 0))) := (HL_W8.out.cell (p := ⟨we.heap.size, 0, none⟩) hl_O).trans k_O_0
      replace k_O_1 : W8.cell? ⟨we.heap.size, 1, none⟩ = some (.slice ro (nlen (po).num.natAbs) co) := (HL_W8.out.cell (p := ⟨we.heap.size, 1, none⟩) hl_O).trans k_O_1
      replace k_O_2 : W8.cell? ⟨we.heap.size, 2, none⟩ = some (.slice ro2 (nlen (po).den) co2) := (HL_W8.out.cell (p := ⟨we.heap.size, 2, none⟩) hl_O).trans k_O_2
      replace f_O : ∀ o, W8.frozen? ⟨we.heap.size, o, none⟩ = false := fun o => (HL_W8.out.frozen (p := ⟨we.heap.size, o, none⟩) hl_O).trans (f_O o)
      replace HX_O := Lib.hid (show Bn W8 (we.heap.size) by rw [← hW]; exact KpA)
      have k_U_0 : W8.cell? ⟨wh.heap.size, 0, none⟩ = some (.bool (decide ((nu).num < 0))) := by rw [← hW]; (first | (go_simp; done) | (simp; done) | (simp [go_sem]; done) | (simp [go_sem, k_P_0, k_P_1, k_P_2, k_O_0, k_O_1, k_O_2, f_P, f_O, hl_P, hl_O]; done))
      have k_U_1 : W8.cell? ⟨wh.heap.size, 1, none⟩ = some (.slice ru (nlen (nu).num.natAbs) cu) := by rw [← hW]; (first | (go_simp; done) | (simp; done) | (simp [go_sem]; done) | (simp [go_sem, k_P_0, k_P_1, k_P_2, k_O_0, k_O_1, k_O_2, f_P, f_O, hl_P, hl_O]; done))
      have k_U_2 : W8.cell? ⟨wh.heap.size, 2, none⟩ = some (.slice ru2 (nlen (nu).den) cu2) := by rw [← hW]; (first | (go_simp; done) | (simp; done) | (simp [go_sem]; done) | (simp [go_sem, k_P_0, k_P_1, k_P_2, k_O_0, k_O_1, k_O_2, f_P, f_O, hl_P, hl_O]; done))
      have f_U : ∀ o, W8.frozen? ⟨wh.heap.size, o, none⟩ = false := by intro o; rw [← hW]; (first | (go_simp; done) | (simp; done) | (simp [go_sem]; done) | (simp [go_sem, k_P_0, k_P_1, k_P_2, k_O_0, k_O_1, k_O_2, f_P, f_O, hl_P, hl_O]; done))
      have HX_U := Lib.hid (show Bn W8 (wh.heap.size) by rw [← hW]; exact KpA)
      have k_V_0 : W8.cell? ⟨wh.heap.size + 1, 0, none⟩ = some (.bool (decide ((de).num < 0))) := by rw [← hW]; (first | (go_simp; done) | (simp; done) | (simp [go_sem]; done) | (simp [go_sem, k_P_0, k_P_1, k_P_2, k_O_0, k_O_1, k_O_2, f_P, f_O, hl_P, hl_O]; done))
      have k_V_1 : W8.cell? ⟨wh.heap.size + 1, 1, none⟩ = some (.slice rv (nlen (de).num.natAbs) cv) := by rw [← hW]; (first | (go_simp; done) | (simp; done) | (simp [go_sem]; done) | (simp [go_sem, k_P_0, k_P_1, k_P_2, k_O_0, k_O_1, k_O_2, f_P, f_O, hl_P, hl_O]; done))
      have k_V_2 : W8.cell? ⟨wh.heap.size + 1, 2, none⟩ = some (.slice rv2 (nlen (de).den) cv2) := by rw [← hW]; (first | (go_simp; done) | (simp; done) | (simp [go_sem]; done) | (simp [go_sem, k_P_0, k_P_1, k_P_2, k_O_0, k_O_1, k_O_2, f_P, f_O, hl_P, hl_O]; done))
      have f_V : ∀ o, W8.frozen? ⟨wh.heap.size + 1, o, none⟩ = false := by intro o; rw [← hW]; (first | (go_simp; done) | (simp; done) | (simp [go_sem]; done) | (simp [go_sem, k_P_0, k_P_1, k_P_2, k_O_0, k_O_1, k_O_2, f_P, f_O, hl_P, hl_O]; done))
      have HX_V := Lib.hid (show Bn W8 (wh.heap.size + 1) by rw [← hW]; exact KpA)
      replace HPA := Lib.hid (HPA.out.keep HK_W8.out)
      replace HPB := Lib.hid (HPB.out.keep HK_W8.out)
      replace HOA := Lib.hid (HOA.out.keep HK_W8.out)
      replace HOB := Lib.hid (HOB.out.keep HK_W8.out)
      replace HU1 := Lib.hid (HU1.out.keep HK_W8.out)
      replace HU2 := Lib.hid (HU2.out.keep HK_W8.out)
      replace HV1 := Lib.hid (HV1.out.keep HK_W8.out)
      replace HV2 := Lib.hid (HV2.out.keep HK_W8.out)
      replace HB := Lib.hid (show Below w.heap.size w W8 by rw [← hW]; exact BlA)
      replace hN : N ≤ W8.heap.size := by rw [← hW]; (first | omega | (simp; done) | (simp; omega))
      replace hs0 : w.heap.size ≤ W8.heap.size := by rw [← hW]; (first | omega | (simp; done) | (simp; omega))
      replace hl_P : wd.heap.size < W8.heap.size := by rw [← hW]; (first | omega | (simp; done) | (simp; omega))
      replace hl_O : we.heap.size < W8.heap.size := by rw [← hW]; (first | omega | (simp; done) | (simp; omega))
      have hl_U : wh.heap.size < W8.heap.size := by rw [← hW]; (first | omega | (simp; done) | (simp; omega))
      have hl_V : wh.heap.size + 1 < W8.heap.size := by rw [← hW]; (first | omega | (simp; done) | (simp; omega))
      replace HT := Lib.hid (HT.out.below HL_W8.out)
      replace HTZ := Lib.hid (HTZ.out.below HL_W8.out)
      replace HTB := Lib.hid (HTB.out.below HL_W8.out)
      clear HL_W8
      clear hW HK_W8
      refine (odds_ok (N := N) _ k _ (bkS t k) _ hN HTB.out (by omega) HBD.out.bk.cnt nu de HNU2.out HDE2.out).mono ?_
      rintro e wi ⟨rx, cx, rx2, cx2, ry, cy, ry2, cy2, rfl, hn1, hn2, hm1, hm2, hb⟩
      have hs_wi : W8.heap.size ≤ wi.heap.size := hb.size
      replace k_P_0 : wi.cell? ⟨wd.heap.size, 0, none⟩ = some (.bool (decide ((P).num < 0))) := (hb.cell (p := ⟨wd.heap.size, 0, none⟩) hl_P).trans k_P_0
      replace k_P_1 : wi.cell? ⟨wd.heap.size, 1, none⟩ = some (.slice rt (nlen (P).num.natAbs) ct) := (hb.cell (p := ⟨wd.heap.size, 1, none⟩) hl_P).trans k_P_1
      replace k_P_2 : wi.cell? ⟨wd.heap.size, 2, none⟩ = some (.slice rt2 (nlen (P).den) ct2) := (hb.cell (p := ⟨wd.heap.size, 2, none⟩) hl_P).trans k_P_2
      replace f_P : ∀ o, wi.frozen? ⟨wd.heap.size, o, none⟩ = false := fun o => (hb.frozen (p := ⟨wd.heap.size, o, none⟩) hl_P).trans (f_P o)
      replace HX_P := Lib.hid (HX_P.out.below hb)
      replace k_O_0 : wi.cell? ⟨we.heap.size, 0, none⟩ = some (.bool (decide ((po).num < 0))) := (hb.cell (p := ⟨we.heap.size, 0, none⟩) hl_O).trans k_O_0
      replace k_O_1 : wi.cell? ⟨we.heap.size, 1, none⟩ = some (.slice ro (nlen (po).num.natAbs) co) := (hb.cell (p := ⟨we.heap.size, 1, none⟩) hl_O).trans k_O_1
      replace k_O_2 : wi.cell? ⟨we.heap.size, 2, none⟩ = some (.slice ro2 (nlen (po).den) co2) := (hb.cell (p := ⟨we.heap.size, 2, none⟩) hl_O).trans k_O_2
      replace f_O : ∀ o, wi.frozen? ⟨we.heap.size, o, none⟩ = false := fun o => (hb.frozen (p := ⟨we.heap.size, o, none⟩) hl_O).trans (f_O o)
      replace HX_O := Lib.hid (HX_O.out.below hb)
      replace k_U_0 : wi.cell? ⟨wh.heap.size, 0, none⟩ = some (.bool (decide ((nu).num < 0))) := (hb.cell (p := ⟨wh.heap.size, 0, none⟩) hl_U).trans k_U_0
      replace k_U_1 : wi.cell? ⟨wh.heap.size, 1, none⟩ = some (.slice ru (nlen (nu).num.natAbs) cu) := (hb.cell (p := ⟨wh.heap.size, 1, none⟩) hl_U).trans k_U_1
      replace k_U_2 : wi.cell? ⟨wh.heap.size, 2, none⟩ = some (.slice ru2 (nlen (nu).den) cu2) := (hb.cell (p := ⟨wh.heap.size, 2, none⟩) hl_U).trans k_U_2
      replace f_U : ∀ o, wi.frozen? ⟨wh.heap.size, o, none⟩ = false := fun o => (hb.frozen (p := ⟨wh.heap.size, o, none⟩) hl_U).trans (f_U o)
      replace HX_U := Lib.hid (HX_U.out.below hb)
      replace k_V_0 : wi.cell? ⟨wh.heap.size + 1, 0, none⟩ = some (.bool (decide ((de).num < 0))) := (hb.cell (p := ⟨wh.heap.size + 1, 0, none⟩) hl_V).trans k_V_0
      replace k_V_1 : wi.cell? ⟨wh.heap.size + 1, 1, none⟩ = some (.slice rv (nlen (de).num.natAbs) cv) := (hb.cell (p := ⟨wh.heap.size + 1, 1, none⟩) hl_V).trans k_V_1
      replace k_V_2 : wi.cell? ⟨wh.heap.size + 1, 2, none⟩ = some (.slice rv2 (nlen (de).den) cv2) := (hb.cell (p := ⟨wh.heap.size + 1, 2, none⟩) hl_V).trans k_V_2
      replace f_V : ∀ o, wi.frozen? ⟨wh.heap.size + 1, o, none⟩ = false := fun o => (hb.frozen (p := ⟨wh.heap.size + 1, o, none⟩) hl_V).trans (f_V o)
      replace HX_V := Lib.hid (HX_V.out.below hb)
      replace HPA := Lib.hid (HPA.out.below hb)
      replace HPB := Lib.hid (HPB.out.below hb)
      replace HOA := Lib.hid (HOA.out.below hb)
      replace HOB := Lib.hid (HOB.out.below hb)
      replace HU1 := Lib.hid (HU1.out.below hb)
      replace HU2 := Lib.hid (HU2.out.below hb)
      replace HV1 := Lib.hid (HV1.out.below hb)
      replace HV2 := Lib.hid (HV2.out.below hb)
      replace HB := Lib.hid (HB.out.trans (hb.mono hs0))
      replace hN : N ≤ wi.heap.size := Nat.le_trans hN hb.size
      replace hs0 : w.heap.size ≤ wi.heap.size := Nat.le_trans hs0 hb.size
      replace hl_P : wd.heap.size < wi.heap.size := Nat.lt_of_lt_of_le hl_P hb.size
      replace hl_O : we.heap.size < wi.heap.size := Nat.lt_of_lt_of_le hl_O hb.size
      replace hl_U : wh.heap.size < wi.heap.size := Nat.lt_of_lt_of_le hl_U hb.size
      replace hl_V : wh.heap.size + 1 < wi.heap.size := Nat.lt_of_lt_of_le hl_V hb.size
      replace HT := Lib.hid (HT.out.below hb)
      replace HTZ := Lib.hid (HTZ.out.below hb)
      replace HTB := Lib.hid (HTB.out.below hb)
      clear hb
      have HX1 := Lib.hid hn1
      clear hn1
      have HX2 := Lib.hid hn2
      clear hn2
      have HY1 := Lib.hid hm1
      clear hm1
      have HY2 := Lib.hid hm2
      clear hm2
      clear HTZ
      clear HTB
      go_wp2_with fail
      refine calls_name fun W9 hW => ?_
      have HL_W9 := Lib.hid (show Below wi.heap.size wi W9 by rw [← hW]; exact BlA)
      have hs_W9 : wi.heap.size ≤ W9.heap.size := by rw [← hW]; (first | omega | (simp; done) | (simp; omega))
      have hd_P_X : wd.heap.size < wi.heap.size := by omega
      have hd_O_X : we.heap.size < wi.heap.size := by omega
      have hd_U_X : wh.heap.size < wi.heap.size := by omega
      have hd_V_X : wh.heap.size + 1 < wi.heap.size := by omega
      have hd_P_Y : wd.heap.size < wi.heap.size + 1 := by omega
      have hd_O_Y : we.heap.size < wi.heap.size + 1 := by omega
      have hd_U_Y : wh.heap.size < wi.heap.size + 1 := by omega
      have hd_V_Y : wh.heap.size + 1 < wi.heap.size + 1 := by omega
      have HK_W9 := Lib.hid (show Kp N wi W9 by rw [← hW]; exact KpA)
      replace k_P_0 : W9.cell? ⟨wd.heap.size, 0, none⟩ = some (.bool (decide ((P).num < 0))) := (HL_W9.out.cell (p := ⟨wd.heap.size, 0, none⟩) hl_P).trans k_P_0
      replace k_P_1 : W9.cell? ⟨wd.heap.size, 1, none⟩ = some (.slice rt (nlen (P).num.natAbs) ct) := (HL_W9.out.cell (p := ⟨wd.heap.size, 1, none⟩) hl_P).trans k_P_1
      replace k_P_2 : W9.cell? ⟨wd.heap.size, 2, none⟩ = some (.slice rt2 (nlen (P).den) ct2) := (HL_W9.out.cell (p := ⟨wd.heap.size, 2, none⟩) hl_P).trans k_P_2
      replace f_P : ∀ o, W9.frozen? ⟨wd.heap.size, o, none⟩ = false := fun o => (HL_W9.out.frozen (p := ⟨wd.heap.size, o, none⟩) hl_P).trans (f_P o)
      replace HX_P := Lib.hid (show Bn W9 (wd.heap.size) by rw [← hW]; exact KpA)
      replace k_O_0 : W9.cell? ⟨we.heap.size, 0, none⟩ = some (.bool (decide ((po).num < 0))) := (HL_W9.out.cell (p := ⟨we.heap.size, 0, none⟩) hl_O).trans k_O_0
      replace k_O_1 : W9.cell? ⟨we.heap.size, 1, none⟩ = some (.slice ro (nlen (po).num.natAbs) co) := (HL_W9.out.cell (p := ⟨we.heap.size, 1, none⟩) hl_O).trans k_O_1
      replace k_O_2 : W9.cell? ⟨we.heap.size, 2, none⟩ = some (.slice ro2 (nlen (po).den) co2) := (HL_W9.out.cell (p := ⟨we.heap.size, 2, none⟩) hl_O).trans k_O_2
      replace f_O : ∀ o, W9.frozen? ⟨we.heap.size, o, none⟩ = false := fun o => (HL_W9.out.frozen (p := ⟨we.heap.size, o, none⟩) hl_O).trans (f_O o)
      replace HX_O := Lib.hid (show Bn W9 (we.heap.size) by rw [← hW]; exact KpA)
      replace k_U_0 : W9.cell? ⟨wh.heap.size, 0, none⟩ = some (.bool (decide ((nu).num < 0))) := (HL_W9.out.cell (p := ⟨wh.heap.size, 0, none⟩) hl_U).trans k_U_0
      replace k_U_1 : W9.cell? ⟨wh.heap.size, 1, none⟩ = some (.slice ru (nlen (nu).num.natAbs) cu) := (HL_W9.out.cell (p := ⟨wh.heap.size, 1, none⟩) hl_U).trans k_U_1
      replace k_U_2 : W9.cell? ⟨wh.heap.size, 2, none⟩ = some (.slice ru2 (nlen (nu).den) cu2) := (HL_W9.out.cell (p := ⟨wh.heap.size, 2, none⟩) hl_U).trans k_U_2
      replace f_U : ∀ o, W9.frozen? ⟨wh.heap.size, o, none⟩ = false := fun o => (HL_W9.out.frozen (p := ⟨wh.heap.size, o, none⟩) hl_U).trans (f_U o)
      replace HX_U := Lib.hid (show Bn W9 (wh.heap.size) by rw [← hW]; exact KpA)
      replace k_V_0 : W9.cell? ⟨wh.heap.size + 1, 0, none⟩ = some (.bool (decide ((de).num < 0))) := (HL_W9.out.cell (p := ⟨wh.heap.size + 1, 0, none⟩) hl_V).trans k_V_0
      replace k_V_1 : W9.cell? ⟨wh.heap.size + 1, 1, none⟩ = some (.slice rv (nlen (de).num.natAbs) cv) := (HL_W9.out.cell (p := ⟨wh.heap.size + 1, 1, none⟩) hl_V).trans k_V_1
      replace k_V_2 : W9.cell? ⟨wh.heap.size + 1, 2, none⟩ = some (.slice rv2 (nlen (de).den) cv2) := (HL_W9.out.cell (p := ⟨wh.heap.size + 1, 2, none⟩) hl_V).trans k_V_2
      replace f_V : ∀ o, W9.frozen? ⟨wh.heap.size + 1, o, none⟩ = false := fun o => (HL_W9.out.frozen (p := ⟨wh.heap.size + 1, o, none⟩) hl_V).trans (f_V o)
      replace HX_V := Lib.hid (show Bn W9 (wh.heap.size + 1) by rw [← hW]; exact KpA)
      have k_X_0 : W9.cell? ⟨wi.heap.size, 0, none⟩ = some (.bool (decide ((nu).num < 0))) := by rw [← hW]; (first | (go_simp; done) | (simp; done) | (simp [go_sem]; done) | (simp [go_sem, k_P_0, k_P_1, k_P_2, k_O_0, k_O_1, k_O_2, k_U_0, k_U_1, k_U_2, k_V_0, k_V_1, k_V_2, f_P, f_O, f_U, f_V, hl_P, hl_O, hl_U, hl_V]; done))
      have k_X_1 : W9.cell? ⟨wi.heap.size, 1, none⟩ = some (.slice rx (nlen (nu).num.natAbs) cx) := by rw [← hW]; (first | (go_simp; done) | (simp; done) | (simp [go_sem]; done) | (simp [go_sem, k_P_0, k_P_1, k_P_2, k_O_0, k_O_1, k_O_2, k_U_0, k_U_1, k_U_2, k_V_0, k_V_1, k_V_2, f_P, f_O, f_U, f_V, hl_P, hl_O, hl_U, hl_V]; done))
      have k_X_2 : W9.cell? ⟨wi.heap.size, 2, none⟩ = some (.slice rx2 (nlen (nu).den) cx2) := by rw [← hW]; (first | (go_simp; done) | (simp; done) | (simp [go_sem]; done) | (simp [go_sem, k_P_0, k_P_1, k_P_2, k_O_0, k_O_1, k_O_2, k_U_0, k_U_1, k_U_2, k_V_0, k_V_1, k_V_2, f_P, f_O, f_U, f_V, hl_P, hl_O, hl_U, hl_V]; done))
      have f_X : ∀ o, W9.frozen? ⟨wi.heap.size, o, none⟩ = false := by intro o; rw [← hW]; (first | (go_simp; done) | (simp; done) | (simp [go_sem]; done) | (simp [go_sem, k_P_0, k_P_1, k_P_2, k_O_0, k_O_1, k_O_2, k_U_0, k_U_1, k_U_2, k_V_0, k_V_1, k_V_2, f_P, f_O, f_U, f_V, hl_P, hl_O, hl_U, hl_V]; done))
      have HX_X := Lib.hid (show Bn W9 (wi.heap.size) by rw [← hW]; exact KpA)
      have k_Y_0 : W9.cell? ⟨wi.heap.size + 1, 0, none⟩ = some (.bool (decide ((de).num < 0))) := by rw [← hW]; (first | (go_simp; done) | (simp; done) | (simp [go_sem]; done) | (simp [go_sem, k_P_0, k_P_1, k_P_2, k_O_0, k_O_1, k_O_2, k_U_0, k_U_1, k_U_2, k_V_0, k_V_1, k_V_2, f_P, f_O, f_U, f_V, hl_P, hl_O, hl_U, hl_V]; done))
      have k_Y_1 : W9.cell? ⟨wi.heap.size + 1, 1, none⟩ = some (.slice ry (nlen (de).num.natAbs) cy) := by rw [← hW]; (first | (go_simp; done) | (simp; done) | (simp [go_sem]; done) | (simp [go_sem, k_P_0, k_P_1, k_P_2, k_O_0, k_O_1, k_O_2, k_U_0, k_U_1, k_U_2, k_V_0, k_V_1, k_V_2, f_P, f_O, f_U, f_V, hl_P, hl_O, hl_U, hl_V]; done))
      have k_Y_2 : W9.cell? ⟨wi.heap.size + 1, 2, none⟩ = some (.slice ry2 (nlen (de).den) cy2) := by rw [← hW]; (first | (go_simp; done) | (simp; done) | (simp [go_sem]; done) | (simp [go_sem, k_P_0, k_P_1, k_P_2, k_O_0, k_O_1, k_O_2, k_U_0, k_U_1, k_U_2, k_V_0, k_V_1, k_V_2, f_P, f_O, f_U, f_V, hl_P, hl_O, hl_U, hl_V]; done))
      have f_Y : ∀ o, W9.frozen? ⟨wi.heap.size + 1, o, none⟩ = false := by intro o; rw [← hW]; (first | (go_simp; done) | (simp; done) | (simp [go_sem]; done) | (simp [go_sem, k_P_0, k_P_1, k_P_2, k_O_0, k_O_1, k_O_2, k_U_0, k_U_1, k_U_2, k_V_0, k_V_1, k_V_2, f_P, f_O, f_U, f_V, hl_P, hl_O, hl_U, hl_V]; done))
      have HX_Y := Lib.hid (show Bn W9 (wi.heap.size + 1) by rw [← hW]; exact KpA)
      replace HPA := Lib.hid (HPA.out.keep HK_W9.out)
      replace HPB := Lib.hid (HPB.out.keep HK_W9.out)
      replace HOA := Lib.hid (HOA.out.keep HK_W9.out)
      replace HOB := Lib.hid (HOB.out.keep HK_W9.out)
      replace HU1 := Lib.hid (HU1.out.keep HK_W9.out)
      replace HU2 := Lib.hid (HU2.out.keep HK_W9.out)
      replace HV1 := Lib.hid (HV1.out.keep HK_W9.out)
      replace HV2 := Lib.hid (HV2.out.keep HK_W9.out)
      replace HX1 := Lib.hid (HX1.out.keep HK_W9.out)
      replace HX2 := Lib.hid (HX2.out.keep HK_W9.out)
      replace HY1 := Lib.hid (HY1.out.keep HK_W9.out)
      replace HY2 := Lib.hid (HY2.out.keep HK_W9.out)
      replace HB := Lib.hid (show Below w.heap.size w W9 by rw [← hW]; exact BlA)
      replace hN : N ≤ W9.heap.size := by rw [← hW]; (first | omega | (simp; done) | (simp; omega))
      replace hs0 : w.heap.size ≤ W9.heap.size := by rw [← hW]; (first | omega | (simp; done) | (simp; omega))
      replace hl_P : wd.heap.size < W9.heap.size := by rw [← hW]; (first | omega | (simp; done) | (simp; omega))
      replace hl_O : we.heap.size < W9.heap.size := by rw [← hW]; (first | omega | (simp; done) | (simp; omega))
      replace hl_U : wh.heap.size < W9.heap.size := by rw [← hW]; (first | omega | (simp; done) | (simp; omega))
      replace hl_V : wh.heap.size + 1 < W9.heap.size := by rw [← hW]; (first | omega | (simp; done) | (simp; omega))
      have hl_X : wi.heap.size < W9.heap.size := by rw [← hW]; (first | omega | (simp; done) | (simp; omega))
      have hl_Y : wi.heap.size + 1 < W9.heap.size := by rw [← hW]; (first | omega | (simp; done) | (simp; omega))
      replace HT := Lib.hid (HT.out.below HL_W9.out)
      clear HL_W9
      clear hW HK_W9
      refine (equal30_any (N := N) _ _ _ _ _ _ nu.num.natAbs _ nu.den _ _ _ _ _ HU1.out HU2.out HX1.out HX2.out).mono ?_
      rintro e wj ⟨rfl, hb⟩
      have hs_wj : W9.heap.size ≤ wj.heap.size := hb.size
      replace k_P_0 : wj.cell? ⟨wd.heap.size, 0, none⟩ = some (.bool (decide ((P).num < 0))) := (hb.cell (p := ⟨wd.heap.size, 0, none⟩) hl_P).trans k_P_0
      replace k_P_1 : wj.cell? ⟨wd.heap.size, 1, none⟩ = some (.slice rt (nlen (P).num.natAbs) ct) := (hb.cell (p := ⟨wd.heap.size, 1, none⟩) hl_P).trans k_P_1
      replace k_P_2 : wj.cell? ⟨wd.heap.size, 2, none⟩ = some (.slice rt2 (nlen (P).den) ct2) := (hb.cell (p := ⟨wd.heap.size, 2, none⟩) hl_P).trans k_P_2
      replace f_P : ∀ o, wj.frozen? ⟨wd.heap.size, o, none⟩ = false := fun o => (hb.frozen (p := ⟨wd.heap.size, o, none⟩) hl_P).trans (f_P o)
      replace HX_P := Lib.hid (HX_P.out.below hb)
      replace k_O_0 : wj.cell? ⟨we.heap.size, 0, none⟩ = some (.bool (decide ((po).num < 0))) := (hb.cell (p := ⟨we.heap.size, 0, none⟩) hl_O).trans k_O_0
      replace k_O_1 : wj.cell? ⟨we.heap.size, 1, none⟩ = some (.slice ro (nlen (po).num.natAbs) co) := (hb.cell (p := ⟨we.heap.size, 1, none⟩) hl_O).trans k_O_1
      replace k_O_2 : wj.cell? ⟨we.heap.size, 2, none⟩ = some (.slice ro2 (nlen (po).den) co2) := (hb.cell (p := ⟨we.heap.size, 2, none⟩) hl_O).trans k_O_2
      replace f_O : ∀ o, wj.frozen? ⟨we.heap.size, o, none⟩ = false := fun o => (hb.frozen (p := ⟨we.heap.size, o, none⟩) hl_O).trans (f_O o)
      replace HX_O := Lib.hid (HX_O.out.below hb)
      replace k_U_0 : wj.cell? ⟨wh.heap.size, 0, none⟩ = some (.bool (decide ((nu).num < 0))) := (hb.cell (p := ⟨wh.heap.size, 0, none⟩) hl_U).trans k_U_0
      replace k_U_1 : wj.cell? ⟨wh.heap.size, 1, none⟩ = some (.slice ru (nlen (nu).num.natAbs) cu) := (hb.cell (p := ⟨wh.heap.size, 1, none⟩) hl_U).trans k_U_1
      replace k_U_2 : wj.cell? ⟨wh.heap.size, 2, none⟩ = some (.slice ru2 (nlen (nu).den) cu2) := (hb.cell (p := ⟨wh.heap.size, 2, none⟩) hl_U).trans k_U_2
      replace f_U : ∀ o, wj.frozen? ⟨wh.heap.size, o, none⟩ = false := fun o => (hb.frozen (p := ⟨wh.heap.size, o, none⟩) hl_U).trans (f_U o)
      replace HX_U := Lib.hid (HX_U.out.below hb)
      replace k_V_0 : wj.cell? ⟨wh.heap.size + 1, 0, none⟩ = some (.bool (decide ((de).num < 0))) := (hb.cell (p := ⟨wh.heap.size + 1, 0, none⟩) hl_V).trans k_V_0
      replace k_V_1 : wj.cell? ⟨wh.heap.size + 1, 1, none⟩ = some (.slice rv (nlen (de).num.natAbs) cv) := (hb.cell (p := ⟨wh.heap.size + 1, 1, none⟩) hl_V).trans k_V_1
      replace k_V_2 : wj.cell? ⟨wh.heap.size + 1, 2, none⟩ = some (.slice rv2 (nlen (de).den) cv2) := (hb.cell (p := ⟨wh.heap.size + 1, 2, none⟩) hl_V).trans k_V_2
      replace f_V : ∀ o, wj.frozen? ⟨wh.heap.size + 1, o, none⟩ = false := fun o => (hb.frozen (p := ⟨wh.heap.size + 1, o, none⟩) hl_V).trans (f_V o)
      replace HX_V := Lib.hid (HX_V.out.below hb)
      replace k_X_0 : wj.cell? ⟨wi.heap.size, 0, none⟩ = some (.bool (decide ((nu).num < 0))) := (hb.cell (p := ⟨wi.heap.size, 0, none⟩) hl_X).trans k_X_0
      replace k_X_1 : wj.cell? ⟨wi.heap.size, 1, none⟩ = some (.slice rx (nlen (nu).num.natAbs) cx) := (hb.cell (p := ⟨wi.heap.size, 1, none⟩) hl_X).trans k_X_1
      replace k_X_2 : wj.cell? ⟨wi.heap.size, 2, none⟩ = some (.slice rx2 (nlen (nu).den) cx2) := (hb.cell (p := ⟨wi.heap.size, 2, none⟩) hl_X).trans k_X_2
      replace f_X : ∀ o, wj.frozen? ⟨wi.heap.size, o, none⟩ = false := fun o => (hb.frozen (p := ⟨wi.heap.size, o, none⟩) hl_X).trans (f_X o)
      replace HX_X := Lib.hid (HX_X.out.below hb)
      replace k_Y_0 : wj.cell? ⟨wi.heap.size + 1, 0, none⟩ = some (.bool (decide ((de).num < 0))) := (hb.cell (p := ⟨wi.heap.size + 1, 0, none⟩) hl_Y).trans k_Y_0
      replace k_Y_1 : wj.cell? ⟨wi.heap.size + 1, 1, none⟩ = some (.slice ry (nlen (de).num.natAbs) cy) := (hb.cell (p := ⟨wi.heap.size + 1, 1, none⟩) hl_Y).trans k_Y_1
      replace k_Y_2 : wj.cell? ⟨wi.heap.size + 1, 2, none⟩ = some (.slice ry2 (nlen (de).den) cy2) := (hb.cell (p := ⟨wi.heap.size + 1, 2, none⟩) hl_Y).trans k_Y_2
      replace f_Y : ∀ o, wj.frozen? ⟨wi.heap.size + 1, o, none⟩ = false := fun o => (hb.frozen (p := ⟨wi.heap.size + 1, o, none⟩) hl_Y).trans (f_Y o)
      replace HX_Y := Lib.hid (HX_Y.out.below hb)
      replace HPA := Lib.hid (HPA.out.below hb)
      replace HPB := Lib.hid (HPB.out.below hb)
      replace HOA := Lib.hid (HOA.out.below hb)
      replace HOB := Lib.hid (HOB.out.below hb)
      replace HU1 := Lib.hid (HU1.out.below hb)
      replace HU2 := Lib.hid (HU2.out.below hb)
      replace HV1 := Lib.hid (HV1.out.below hb)
      replace HV2 := Lib.hid (HV2.out.below hb)
      replace HX1 := Lib.hid (HX1.out.below hb)
      replace HX2 := Lib.hid (HX2.out.below hb)
      replace HY1 := Lib.hid (HY1.out.below hb)
      replace HY2 := Lib.hid (HY2.out.below hb)
      replace HB := Lib.hid (HB.out.trans (hb.mono hs0))
      replace hN : N ≤ wj.heap.size := Nat.le_trans hN hb.size
      replace hs0 : w.heap.size ≤ wj.heap.size := Nat.le_trans hs0 hb.size
      replace hl_P : wd.heap.size < wj.heap.size := Nat.lt_of_lt_of_le hl_P hb.size
      replace hl_O : we.heap.size < wj.heap.size := Nat.lt_of_lt_of_le hl_O hb.size
      replace hl_U : wh.heap.size < wj.heap.size := Nat.lt_of_lt_of_le hl_U hb.size
      replace hl_V : wh.heap.size + 1 < wj.heap.size := Nat.lt_of_lt_of_le hl_V hb.size
      replace hl_X : wi.heap.size < wj.heap.size := Nat.lt_of_lt_of_le hl_X hb.size
      replace hl_Y : wi.heap.size + 1 < wj.heap.size := Nat.lt_of_lt_of_le hl_Y hb.size
      replace HT := Lib.hid (HT.out.below hb)
      clear hb
      clear hl_U f_U HX_U k_U_0 k_U_1 k_U_2
      clear hl_X f_X HX_X k_X_0 k_X_1 k_X_2
      clear HU1
      clear HU2
      clear HX1
      clear HX2
      go_wp2_with fail
      refine calls_name fun W10 hW => ?_
      have HL_W10 := Lib.hid (show Below wj.heap.size wj W10 by rw [← hW]; exact BlA)
      have hs_W10 : wj.heap.size ≤ W10.heap.size := by rw [← hW]; (first | omega | (simp; done) | (simp; omega))
      have HK_W10 := Lib.hid (show Kp N wj W10 by rw [← hW]; exact KpA)
      replace k_P_0 : W10.cell? ⟨wd.heap.size, 0, none⟩ = some (.bool (decide ((P).num < 0))) := (HL_W10.out.cell (p := ⟨wd.heap.size, 0, none⟩) hl_P).trans k_P_0
      replace k_P_1 : W10.cell? ⟨wd.heap.size, 1, none⟩ = some (.slice rt (nlen (P).num.natAbs) ct) := (HL_W10.out.cell (p := ⟨wd.heap.size, 1, none⟩) hl_P).trans k_P_1
      replace k_P_2 : W10.cell? ⟨wd.heap.size, 2, none⟩ = some (.slice rt2 (nlen (P).den) ct2) := (HL_W10.out.cell (p := ⟨wd.heap.size, 2, none⟩) hl_P).trans k_P_2
      replace f_P : ∀ o, W10.frozen? ⟨wd.heap.size, o, none⟩ = false := fun o => (HL_W10.out.frozen (p := ⟨wd.heap.size, o, none⟩) hl_P).trans (f_P o)
      replace HX_P := Lib.hid (show Bn W10 (wd.heap.size) by rw [← hW]; exact KpA)
      replace k_O_0 : W10.cell? ⟨we.heap.size, 0, none⟩ = some (.bool (decide ((po).num < 0))) := (HL_W10.out.cell (p := ⟨we.heap.size, 0, none⟩) hl_O).trans k_O_0
      replace k_O_1 : W10.cell? ⟨we.heap.size, 1, none⟩ = some (.slice ro (nlen (po).num.natAbs) co) := (HL_W10.out.cell (p := ⟨we.heap.size, 1, none⟩) hl_O).trans k_O_1
      replace k_O_2 : W10.cell? ⟨we.heap.size, 2, none⟩ = some (.slice ro2 (nlen (po).den) co2) := (HL_W10.out.cell (p := ⟨we.heap.size, 2, none⟩) hl_O).trans k_O_2
      replace f_O : ∀ o, W10.frozen? ⟨we.heap.size, o, none⟩ = false := fun o => (HL_W10.out.frozen (p := ⟨we.heap.size, o, none⟩) hl_O).trans (f_O o)
      replace HX_O := Lib.hid (show Bn W10 (we.heap.size) by rw [← hW]; exact KpA)
      replace k_V_0 : W10.cell? ⟨wh.heap.size + 1, 0, none⟩ = some (.bool (decide ((de).num < 0))) := (HL_W10.out.cell (p := ⟨wh.heap.size + 1, 0, none⟩) hl_V).trans k_V_0
      replace k_V_1 : W10.cell? ⟨wh.heap.size + 1, 1, none⟩ = some (.slice rv (nlen (de).num.natAbs) cv) := (HL_W10.out.cell (p := ⟨wh.heap.size + 1, 1, none⟩) hl_V).trans k_V_1
      replace k_V_2 : W10.cell? ⟨wh.heap.size + 1, 2, none⟩ = some (.slice rv2 (nlen (de).den) cv2) := (HL_W10.out.cell (p := ⟨wh.heap.size + 1, 2, none⟩) hl_V).trans k_V_2
      replace f_V : ∀ o, W10.frozen? ⟨wh.heap.size + 1, o, none⟩ = false := fun o => (HL_W10.out.frozen (p := ⟨wh.heap.size + 1, o, none⟩) hl_V).trans (f_V o)
      replace HX_V := Lib.hid (show Bn W10 (wh.heap.size + 1) by rw [← hW]; exact KpA)
      replace k_Y_0 : W10.cell? ⟨wi.heap.size + 1, 0, none⟩ = some (.bool (decide ((de).num < 0))) := (HL_W10.out.cell (p := ⟨wi.heap.size + 1, 0, none⟩) hl_Y).trans k_Y_0
      replace k_Y_1 : W10.cell? ⟨wi.heap.size + 1, 1, none⟩ = some (.slice ry (nlen (de).num.natAbs) cy) := (HL_W10.out.cell (p := ⟨wi.heap.size + 1, 1, none⟩) hl_Y).trans k_Y_1
      replace k_Y_2 : W10.cell? ⟨wi.heap.size + 1, 2, none⟩ = some (.slice ry2 (nlen (de).den) cy2) := (HL_W10.out.cell (p := ⟨wi.heap.size + 1, 2, none⟩) hl_Y).trans k_Y_2
      replace f_Y : ∀ o, W10.frozen? ⟨wi.heap.size + 1, o, none⟩ = false := fun o => (HL_W10.out.frozen (p := ⟨wi.heap.size + 1, o, none⟩) hl_Y).trans (f_Y o)
      replace HX_Y := Lib.hid (show Bn W10 (wi.heap.size + 1) by rw [← hW]; exact KpA)
      replace HPA := Lib.hid (HPA.out.keep HK_W10.out)
      replace HPB := Lib.hid (HPB.out.keep HK_W10.out)
      replace HOA := Lib.hid (HOA.out.keep HK_W10.out)
      replace HOB := Lib.hid (HOB.out.keep HK_W10.out)
      replace HV1 := Lib.hid (HV1.out.keep HK_W10.out)
      replace HV2 := Lib.hid (HV2.out.keep HK_W10.out)
      replace HY1 := Lib.hid (HY1.out.keep HK_W10.out)
      replace HY2 := Lib.hid (HY2.out.keep HK_W10.out)
      replace HB := Lib.hid (show Below w.heap.size w W10 by rw [← hW]; exact BlA)
      replace hN : N ≤ W10.heap.size := by rw [← hW]; (first | omega | (simp; done) | (simp; omega))
      replace hs0 : w.heap.size ≤ W10.heap.size := by rw [← hW]; (first | omega | (simp; done) | (simp; omega))
      replace hl_P : wd.heap.size < W10.heap.size := by rw [← hW]; (first | omega | (simp; done) | (simp; omega))
      replace hl_O : we.heap.size < W10.heap.size := by rw [← hW]; (first | omega | (simp; done) | (simp; omega))
      replace hl_V : wh.heap.size + 1 < W10.heap.size := by rw [← hW]; (first | omega | (simp; done) | (simp; omega))
      replace hl_Y : wi.heap.size + 1 < W10.heap.size := by rw [← hW]; (first | omega | (simp; done) | (simp; omega))
      replace HT := Lib.hid (HT.out.below HL_W10.out)
      clear HL_W10
      clear hW HK_W10
      refine (equal30_any (N := N) _ _ _ _ _ _ de.num.natAbs _ de.den _ _ _ _ _ HV1.out HV2.out HY1.out HY2.out).mono ?_
      rintro e wk ⟨rfl, hb⟩
      have hs_wk : W10.heap.size ≤ wk.heap.size := hb.size
      replace k_P_0 : wk.cell? ⟨wd.heap.size, 0, none⟩ = some (.bool (decide ((P).num < 0))) := (hb.cell (p := ⟨wd.heap.size, 0, none⟩) hl_P).trans k_P_0
      replace k_P_1 : wk.cell? ⟨wd.heap.size, 1, none⟩ = some (.slice rt (nlen (P).num.natAbs) ct) := (hb.cell (p := ⟨wd.heap.size, 1, none⟩) hl_P).trans k_P_1
      replace k_P_2 : wk.cell? ⟨wd.heap.size, 2, none⟩ = some (.slice rt2 (nlen (P).den) ct2) := (hb.cell (p := ⟨wd.heap.size, 2, none⟩) hl_P).trans k_P_2
      replace f_P : ∀ o, wk.frozen? ⟨wd.heap.size, o, none⟩ = false := fun o => (hb.frozen (p := ⟨wd.heap.size, o, none⟩) hl_P).trans (f_P o)
      replace HX_P := Lib.hid (HX_P.out.below hb)
      replace k_O_0 : wk.cell? ⟨we.heap.size, 0, none⟩ = some (.bool (decide ((po).num < 0))) := (hb.cell (p := ⟨we.heap.size, 0, none⟩) hl_O).trans k_O_0
      replace k_O_1 : wk.cell? ⟨we.heap.size, 1, none⟩ = some (.slice ro (nlen (po).num.natAbs) co) := (hb.cell (p := ⟨we.heap.size, 1, none⟩) hl_O).trans k_O_1
      replace k_O_2 : wk.cell? ⟨we.heap.size, 2, none⟩ = some (.slice ro2 (nlen (po).den) co2) := (hb.cell (p := ⟨we.heap.size, 2, none⟩) hl_O).trans k_O_2
      replace f_O : ∀ o, wk.frozen? ⟨we.heap.size, o, none⟩ = false := fun o => (hb.frozen (p := ⟨we.heap.size, o, none⟩) hl_O).trans (f_O o)
      replace HX_O := Lib.hid (HX_O.out.below hb)
      replace k_V_0 : wk.cell? ⟨wh.heap.size + 1, 0, none⟩ = some (.bool (decide ((de).num < 0))) := (hb.cell (p := ⟨wh.heap.size + 1, 0, none⟩) hl_V).trans k_V_0
      replace k_V_1 : wk.cell? ⟨wh.heap.size + 1, 1, none⟩ = some (.slice rv (nlen (de).num.natAbs) cv) := (hb.cell (p := ⟨wh.heap.size + 1, 1, none⟩) hl_V).trans k_V_1
      replace k_V_2 : wk.cell? ⟨wh.heap.size + 1, 2, none⟩ = some (.slice rv2 (nlen (de).den) cv2) := (hb.cell (p := ⟨wh.heap.size + 1, 2, none⟩) hl_V).trans k_V_2
      replace f_V : ∀ o, wk.frozen? ⟨wh.heap.size + 1, o, none⟩ = false := fun o => (hb.frozen (p := ⟨wh.heap.size + 1, o, none⟩) hl_V).trans (f_V o)
      replace HX_V := Lib.hid (HX_V.out.below hb)
      replace k_Y_0 : wk.cell? ⟨wi.heap.size + 1, 0, none⟩ = some (.bool (decide ((de).num < 0))) := (hb.cell (p := ⟨wi.heap.size + 1, 0, none⟩) hl_Y).trans k_Y_0
      replace k_Y_1 : wk.cell? ⟨wi.heap.size + 1, 1, none⟩ = some (.slice ry (nlen (de).num.natAbs) cy) := (hb.cell (p := ⟨wi.heap.size + 1, 1, none⟩) hl_Y).trans k_Y_1
      replace k_Y_2 : wk.cell? ⟨wi.heap.size + 1, 2, none⟩ = some (.slice ry2 (nlen (de).den) cy2) := (hb.cell (p := ⟨wi.heap.size + 1, 2, none⟩) hl_Y).trans k_Y_2
      replace f_Y : ∀ o, wk.frozen? ⟨wi.heap.size + 1, o, none⟩ = false := fun o => (hb.frozen (p := ⟨wi.heap.size + 1, o, none⟩) hl_Y).trans (f_Y o)
      replace HX_Y := Lib.hid (HX_Y.out.below hb)
      replace HPA := Lib.hid (HPA.out.below hb)
      replace HPB := Lib.hid (HPB.out.below hb)
      replace HOA := Lib.hid (HOA.out.below hb)
      replace HOB := Lib.hid (HOB.out.below hb)
      replace HV1 := Lib.hid (HV1.out.below hb)
      replace HV2 := Lib.hid (HV2.out.below hb)
      replace HY1 := Lib.hid (HY1.out.below hb)
      replace HY2 := Lib.hid (HY2.out.below hb)
      replace HB := Lib.hid (HB.out.trans (hb.mono hs0))
      replace hN : N ≤ wk.heap.size := Nat.le_trans hN hb.size
      replace hs0 : w.heap.size ≤ wk.heap.size := Nat.le_trans hs0 hb.size
      replace hl_P : wd.heap.size < wk.heap.size := Nat.lt_of_lt_of_le hl_P hb.size
      replace hl_O : we.heap.size < wk.heap.size := Nat.lt_of_lt_of_le hl_O hb.size
      replace hl_V : wh.heap.size + 1 < wk.heap.size := Nat.lt_of_lt_of_le hl_V hb.size
      replace hl_Y : wi.heap.size + 1 < wk.heap.size := Nat.lt_of_lt_of_le hl_Y hb.size
      replace HT := Lib.hid (HT.out.below hb)
      clear hb
      clear hl_V f_V HX_V k_V_0 k_V_1 k_V_2
      clear hl_Y f_Y HX_Y k_Y_0 k_Y_1 k_Y_2
      clear HV1
      clear HV2
      clear HY1
      clear HY2
      go_wp2_with fail
      refine calls_name fun W11 hW => ?_
      have HL_W11 := Lib.hid (show Below wk.heap.size wk W11 by rw [← hW]; exact BlA)
      have hs_W11 : wk.heap.size ≤ W11.heap.size := by rw [← hW]; (first | omega | (simp; done) | (simp; omega))
      have HK_W11 := Lib.hid (show Kp N wk W11 by rw [← hW]; exact KpA)
      replace k_P_0 : W11.cell? ⟨wd.heap.size, 0, none⟩ = some (.bool (decide ((P).num < 0))) := (HL_W11.out.cell (p := ⟨wd.heap.size, 0, none⟩) hl_P).trans k_P_0
      replace k_P_1 : W11.cell? ⟨wd.heap.size, 1, none⟩ = some (.slice rt (nlen (P).num.natAbs) ct) := (HL_W11.out.cell (p := ⟨wd.heap.size, 1, none⟩) hl_P).trans k_P_1
      replace k_P_2 : W11.cell? ⟨wd.heap.size, 2, none⟩ = some (.slice rt2 (nlen (P).den) ct2) := (HL_W11.out.cell (p := ⟨wd.heap.size, 2, none⟩) hl_P).trans k_P_2
      replace f_P : ∀ o, W11.frozen? ⟨wd.heap.size, o, none⟩ = false := fun o => (HL_W11.out.frozen (p := ⟨wd.heap.size, o, none⟩) hl_P).trans (f_P o)
      replace HX_P := Lib.hid (show Bn W11 (wd.heap.size) by rw [← hW]; exact KpA)
      replace k_O_0 : W11.cell? ⟨we.heap.size, 0, none⟩ = some (.bool (decide ((po).num < 0))) := (HL_W11.out.cell (p := ⟨we.heap.size, 0, none⟩) hl_O).trans k_O_0
      replace k_O_1 : W11.cell? ⟨we.heap.size, 1, none⟩ = some (.slice ro (nlen (po).num.natAbs) co) := (HL_W11.out.cell (p := ⟨we.heap.size, 1, none⟩) hl_O).trans k_O_1
      replace k_O_2 : W11.cell? ⟨we.heap.size, 2, none⟩ = some (.slice ro2 (nlen (po).den) co2) := (HL_W11.out.cell (p := ⟨we.heap.size, 2, none⟩) hl_O).trans k_O_2
      replace f_O : ∀ o, W11.frozen? ⟨we.heap.size, o, none⟩ = false := fun o => (HL_W11.out.frozen (p := ⟨we.heap.size, o, none⟩) hl_O).trans (f_O o)
      replace HX_O := Lib.hid (show Bn W11 (we.heap.size) by rw [← hW]; exact KpA)
      replace HPA := Lib.hid (HPA.out.keep HK_W11.out)
      replace HPB := Lib.hid (HPB.out.keep HK_W11.out)
      replace HOA := Lib.hid (HOA.out.keep HK_W11.out)
      replace HOB := Lib.hid (HOB.out.keep HK_W11.out)
      replace HB := Lib.hid (show Below w.heap.size w W11 by rw [← hW]; exact BlA)
      replace hN : N ≤ W11.heap.size := by rw [← hW]; (first | omega | (simp; done) | (simp; omega))
      replace hs0 : w.heap.size ≤ W11.heap.size := by rw [← hW]; (first | omega | (simp; done) | (simp; omega))
      replace hl_P : wd.heap.size < W11.heap.size := by rw [← hW]; (first | omega | (simp; done) | (simp; omega))
      replace hl_O : we.heap.size < W11.heap.size := by rw [← hW]; (first | omega | (simp; done) | (simp; omega))
      replace HT := Lib.hid (HT.out.below HL_W11.out)
      clear HL_W11
      clear hW HK_W11
      refine (rsign_any (N := N) _ _ _ _ _ _ _ 9439 P _ hN (Rt.of_norm HPA.out HPB.out _ HPZ.out)).mono ?_
      rw [HSG.out]
      rintro e wl ⟨rfl, hb⟩
      have hs_wl : W11.heap.size ≤ wl.heap.size := hb.size
      replace k_P_0 : wl.cell? ⟨wd.heap.size, 0, none⟩ = some (.bool (decide ((P).num < 0))) := (hb.cell (p := ⟨wd.heap.size, 0, none⟩) hl_P).trans k_P_0
      replace k_P_1 : wl.cell? ⟨wd.heap.size, 1, none⟩ = some (.slice rt (nlen (P).num.natAbs) ct) := (hb.cell (p := ⟨wd.heap.size, 1, none⟩) hl_P).trans k_P_1
      replace k_P_2 : wl.cell? ⟨wd.heap.size, 2, none⟩ = some (.slice rt2 (nlen (P).den) ct2) := (hb.cell (p := ⟨wd.heap.size, 2, none⟩) hl_P).trans k_P_2
      replace f_P : ∀ o, wl.frozen? ⟨wd.heap.size, o, none⟩ = false := fun o => (hb.frozen (p := ⟨wd.heap.size, o, none⟩) hl_P).trans (f_P o)
      replace HX_P := Lib.hid (HX_P.out.below hb)
      replace k_O_0 : wl.cell? ⟨we.heap.size, 0, none⟩ = some (.bool (decide ((po).num < 0))) := (hb.cell (p := ⟨we.heap.size, 0, none⟩) hl_O).trans k_O_0
      replace k_O_1 : wl.cell? ⟨we.heap.size, 1, none⟩ = some (.slice ro (nlen (po).num.natAbs) co) := (hb.cell (p := ⟨we.heap.size, 1, none⟩) hl_O).trans k_O_1
      replace k_O_2 : wl.cell? ⟨we.heap.size, 2, none⟩ = some (.slice ro2 (nlen (po).den) co2) := (hb.cell (p := ⟨we.heap.size, 2, none⟩) hl_O).trans k_O_2
      replace f_O : ∀ o, wl.frozen? ⟨we.heap.size, o, none⟩ = false := fun o => (hb.frozen (p := ⟨we.heap.size, o, none⟩) hl_O).trans (f_O o)
      replace HX_O := Lib.hid (HX_O.out.below hb)
      replace HPA := Lib.hid (HPA.out.below hb)
      replace HPB := Lib.hid (HPB.out.below hb)
      replace HOA := Lib.hid (HOA.out.below hb)
      replace HOB := Lib.hid (HOB.out.below hb)
      replace HB := Lib.hid (HB.out.trans (hb.mono hs0))
      replace hN : N ≤ wl.heap.size := Nat.le_trans hN hb.size
      replace hs0 : w.heap.size ≤ wl.heap.size := Nat.le_trans hs0 hb.size
      replace hl_P : wd.heap.size < wl.heap.size := Nat.lt_of_lt_of_le hl_P hb.size
      replace hl_O : we.heap.size < wl.heap.size := Nat.lt_of_lt_of_le hl_O hb.size
      replace HT := Lib.hid (HT.out.below hb)
      clear hb
      go_wp2_with fail
      refine calls_name fun W12 hW => ?_
      have HL_W12 := Lib.hid (show Below wl.heap.size wl W12 by rw [← hW]; exact BlA)
      have hs_W12 : wl.heap.size ≤ W12.heap.size := by rw [← hW]; (first | omega | (simp; done) | (simp; omega))
      have HK_W12 := Lib.hid (show Kp N wl W12 by rw [← hW]; exact KpA)
      replace k_P_0 : W12.cell? ⟨wd.heap.size, 0, none⟩ = some (.bool (decide ((P).num < 0))) := (HL_W12.out.cell (p := ⟨wd.heap.size, 0, none⟩) hl_P).trans k_P_0
      replace k_P_1 : W12.cell? ⟨wd.heap.size, 1, none⟩ = some (.slice rt (nlen (P).num.natAbs) ct) := (HL_W12.out.cell (p := ⟨wd.heap.size, 1, none⟩) hl_P).trans k_P_1
      replace k_P_2 : W12.cell? ⟨wd.heap.size, 2, none⟩ = some (.slice rt2 (nlen (P).den) ct2) := (HL_W12.out.cell (p := ⟨wd.heap.size, 2, none⟩) hl_P).trans k_P_2
      replace f_P : ∀ o, W12.frozen? ⟨wd.heap.size, o, none⟩ = false := fun o => (HL_W12.out.frozen (p := ⟨wd.heap.size, o, none⟩) hl_P).trans (f_P o)
      replace HX_P := Lib.hid (show Bn W12 (wd.heap.size) by rw [← hW]; exact KpA)
      replace k_O_0 : W12.cell? ⟨we.heap.size, 0, none⟩ = some (.bool (decide ((po).num < 0))) := (HL_W12.out.cell (p := ⟨we.heap.size, 0, none⟩) hl_O).trans k_O_0
      replace k_O_1 : W12.cell? ⟨we.heap.size, 1, none⟩ = some (.slice ro (nlen (po).num.natAbs) co) := (HL_W12.out.cell (p := ⟨we.heap.size, 1, none⟩) hl_O).trans k_O_1
      replace k_O_2 : W12.cell? ⟨we.heap.size, 2, none⟩ = some (.slice ro2 (nlen (po).den) co2) := (HL_W12.out.cell (p := ⟨we.heap.size, 2, none⟩) hl_O).trans k_O_2
      replace f_O : ∀ o, W12.frozen? ⟨we.heap.size, o, none⟩ = false := fun o => (HL_W12.out.frozen (p := ⟨we.heap.size, o, none⟩) hl_O).trans (f_O o)
      replace HX_O := Lib.hid (show Bn W12 (we.heap.size) by rw [← hW]; exact KpA)
      replace HPA := Lib.hid (HPA.out.keep HK_W12.out)
      replace HPB := Lib.hid (HPB.out.keep HK_W12.out)
      replace HOA := Lib.hid (HOA.out.keep HK_W12.out)
      replace HOB := Lib.hid (HOB.out.keep HK_W12.out)
      replace HB := Lib.hid (show Below w.heap.size w W12 by rw [← hW]; exact BlA)
      replace hN : N ≤ W12.heap.size := by rw [← hW]; (first | omega | (simp; done) | (simp; omega))
      replace hs0 : w.heap.size ≤ W12.heap.size := by rw [← hW]; (first | omega | (simp; done) | (simp; omega))
      replace hl_P : wd.heap.size < W12.heap.size := by rw [← hW]; (first | omega | (simp; done) | (simp; omega))
      replace hl_O : we.heap.size < W12.heap.size := by rw [← hW]; (first | omega | (simp; done) | (simp; omega))
      replace HT := Lib.hid (HT.out.below HL_W12.out)
      clear HL_W12
      clear hW HK_W12
      refine (rcmp_any (N := N) _ _ _ _ _ _ _ _ _ _ _ _ _ _ 9439 1 P po _ hN (Rt.of_norm HPA.out HPB.out _ HPZ.out) (Rt.of_norm HOA.out HOB.out 1 HOZ.out) (by decide) (by decide)).mono ?_
      rw [HK.out]
      rintro e wm ⟨rfl, hb⟩
      have hs_wm : W12.heap.size ≤ wm.heap.size := hb.size
      replace k_P_0 : wm.cell? ⟨wd.heap.size, 0, none⟩ = some (.bool (decide ((P).num < 0))) := (hb.cell (p := ⟨wd.heap.size, 0, none⟩) hl_P).trans k_P_0
      replace k_P_1 : wm.cell? ⟨wd.heap.size, 1, none⟩ = some (.slice rt (nlen (P).num.natAbs) ct) := (hb.cell (p := ⟨wd.heap.size, 1, none⟩) hl_P).trans k_P_1
      replace k_P_2 : wm.cell? ⟨wd.heap.size, 2, none⟩ = some (.slice rt2 (nlen (P).den) ct2) := (hb.cell (p := ⟨wd.heap.size, 2, none⟩) hl_P).trans k_P_2
      replace f_P : ∀ o, wm.frozen? ⟨wd.heap.size, o, none⟩ = false := fun o => (hb.frozen (p := ⟨wd.heap.size, o, none⟩) hl_P).trans (f_P o)
      replace HX_P := Lib.hid (HX_P.out.below hb)
      replace k_O_0 : wm.cell? ⟨we.heap.size, 0, none⟩ = some (.bool (decide ((po).num < 0))) := (hb.cell (p := ⟨we.heap.size, 0, none⟩) hl_O).trans k_O_0
      replace k_O_1 : wm.cell? ⟨we.heap.size, 1, none⟩ = some (.slice ro (nlen (po).num.natAbs) co) := (hb.cell (p := ⟨we.heap.size, 1, none⟩) hl_O).trans k_O_1
      replace k_O_2 : wm.cell? ⟨we.heap.size, 2, none⟩ = some (.slice ro2 (nlen (po).den) co2) := (hb.cell (p := ⟨we.heap.size, 2, none⟩) hl_O).trans k_O_2
      replace f_O : ∀ o, wm.frozen? ⟨we.heap.size, o, none⟩ = false := fun o => (hb.frozen (p := ⟨we.heap.size, o, none⟩) hl_O).trans (f_O o)
      replace HX_O := Lib.hid (HX_O.out.below hb)
      replace HPA := Lib.hid (HPA.out.below hb)
      replace HPB := Lib.hid (HPB.out.below hb)
      replace HOA := Lib.hid (HOA.out.below hb)
      replace HOB := Lib.hid (HOB.out.below hb)
      replace HB := Lib.hid (HB.out.trans (hb.mono hs0))
      replace hN : N ≤ wm.heap.size := Nat.le_trans hN hb.size
      replace hs0 : w.heap.size ≤ wm.heap.size := Nat.le_trans hs0 hb.size
      replace hl_P : wd.heap.size < wm.heap.size := Nat.lt_of_lt_of_le hl_P hb.size
      replace hl_O : we.heap.size < wm.heap.size := Nat.lt_of_lt_of_le hl_O hb.size
      replace HT := Lib.hid (HT.out.below hb)
      clear hb
      clear hl_P f_P HX_P k_P_0 k_P_1 k_P_2
      clear hl_O f_O HX_O k_O_0 k_O_1 k_O_2
      clear HPA
      clear HPB
      clear HOA
      clear HOB
      go_wp2_with fail
      refine calls_name fun W13 hW => ?_
      have hs_W13 : wm.heap.size ≤ W13.heap.size := by rw [← hW]; (first | omega | (simp; done) | (simp; omega))
      have HL_W13 := Lib.hid (show Below wm.heap.size wm W13 by rw [← hW]; exact BlA)
      replace HB := Lib.hid (show Below w.heap.size w W13 by rw [← hW]; exact BlA)
      replace hN : N ≤ W13.heap.size := by rw [← hW]; (first | omega | (simp; done) | (simp; omega))
      replace hs0 : w.heap.size ≤ W13.heap.size := by rw [← hW]; (first | omega | (simp; done) | (simp; omega))
      replace HT := Lib.hid (HT.out.below HL_W13.out)
      clear HL_W13
      clear hW
      refine (fawake_any (N := N) _ hN HT.out).mono ?_
      rintro e wn ⟨rfl, hb⟩
      have hs_wn : W13.heap.size ≤ wn.heap.size := hb.size
      replace HB := Lib.hid (HB.out.trans (hb.mono hs0))
      replace hN : N ≤ wn.heap.size := Nat.le_trans hN hb.size
      replace hs0 : w.heap.size ≤ wn.heap.size := Nat.le_trans hs0 hb.size
      replace HT := Lib.hid (HT.out.below hb)
      clear hb
      go_wp2_with fail
      go_ret
      exact ⟨rfl, HB.out⟩

end Go.Proofs.YtmecipfdelgfbaaDoor
