/- The examples of chapter 30: law30's awake returns true. The table of powers of ten must lie in memory. -/
import Derived.Test.YtmecipfdelgfbaaDoorDfG
namespace Go.Proofs.YtmecipfdelgfbaaDoor
open Go.RowKit

theorem rsz_small (q : Rat) (h1 : q.num.natAbs < 4294967296) (h2 : q.den < 4294967296) : rsz q ≤ 1 := by
  have a := nlen_small h1
  have b := nlen_small h2
  unfold rsz; omega
def t4 (x0 x1 x2 x3 : Nat) (_ j : Nat) : Nat := sel4 x0 x1 x2 x3 j
theorem Tz.lit (w : World) (b : Nat) (hb : b = w.heap.size) (x0 x1 x2 x3 : Int) (y0 y1 y2 y3 : Nat) (h0 : x0 = y0) (h1 : x1 = y1) (h2 : x2 = y2) (h3 : x3 = y3) (T : TypeId) : Tz (w.alloc (.cells #[.int .i64 x0, .int .i64 x1, .int .i64 x2, .int .i64 x3] T)) (some ⟨b, 0, none⟩) 1 1 (t4 y0 y1 y2 y3) := by
  subst hb h0 h1 h2 h3
  refine ⟨by decide, by decide, fun _ => ⟨_, _, rfl, fun i hi => ?_⟩⟩
  obtain rfl : i = 0 := by omega
  simp [t4, sel4]
theorem dd126 : Lib.decDigits 126 = [49, 50, 54] := by
  rw [Lib.decDigits, dif_neg (by decide), show 126 / 10 = 12 from rfl, Lib.decDigits_two (by decide) (by decide)]; rfl
theorem txt_97 : Tx (mkRat 9 7) ⟨#[57, 47, 55]⟩ := txt_small _ 9 7 (by decide +kernel) (by decide +kernel) (by decide +kernel) (by decide) (by decide) (by decide)
theorem txt_37 : Tx (mkRat 3 7) ⟨#[51, 47, 55]⟩ := txt_small _ 3 7 (by decide +kernel) (by decide +kernel) (by decide +kernel) (by decide) (by decide) (by decide)
theorem txt_1126 : Tx (mkRat 1 126) ⟨#[49, 47, 49, 50, 54]⟩ := by
  refine ⟨by decide +kernel, by decide +kernel, by decide +kernel, ?_⟩
  unfold txt
  rw [show (mkRat 1 126).num.natAbs = 1 by decide +kernel, show (mkRat 1 126).den = 126 by decide +kernel, if_neg (by decide), Lib.decDigits_one (by decide), dd126]; rfl
theorem aw_o1 : sQ (onmS (t4 6 2 3 3)) 1 = mkRat 9 7 := by decide +kernel
theorem aw_o2 : sQ (odnS (t4 6 2 3 3)) 1 = mkRat 3 7 := by decide +kernel
theorem aw_c1 : cntS (t4 6 2 3 3) 1 := by
  intro i hi j hj
  obtain rfl | rfl | rfl | rfl : j = 0 ∨ j = 1 ∨ j = 2 ∨ j = 3 := by omega
  all_goals simp [t4, sel4]
theorem aw_c2 : cntS (t4 5 0 0 5) 1 := by
  intro i hi j hj
  obtain rfl | rfl | rfl | rfl : j = 0 ∨ j = 1 ∨ j = 2 ∨ j = 3 := by omega
  all_goals simp [t4, sel4]
theorem aw_t : tstS (t4 5 0 0 5) 1 = mkRat 1 126 := by decide +kernel
theorem aw_s : supS (t4 5 0 0 5) 1 ≤ 121 := by decide +kernel
theorem aw_s2 : supS (swS (t4 5 0 0 5)) 1 ≤ 121 := by decide +kernel
theorem aw_k : claS (tstS (t4 5 0 0 5) 1) (mkRat 1 20) (sQ (onmS (t4 5 0 0 5)) 1) (sQ (odnS (t4 5 0 0 5)) 1) = 2 := by decide +kernel
theorem aw_k2 : claS (tstS (swS (t4 5 0 0 5)) 1) (mkRat 1 20) (sQ (onmS (swS (t4 5 0 0 5))) 1) (sQ (odnS (swS (t4 5 0 0 5))) 1) = -2 := by decide +kernel
theorem aw_p : prb (mkRat 1 20) = true := by decide +kernel
theorem Is.nil (w : World) (z : Nat → Int) : Is w none 0 0 z := ⟨Nat.le_refl _, Nat.zero_le _, fun h => absurd h (by decide)⟩
theorem Rw.nil (w : World) (ra : Nat → Option Addr) (rn rc : Nat → Nat) (z : Nat → Nat → Int) : Rw w none 0 0 ra rn rc z := ⟨Nat.le_refl _, Nat.zero_le _, fun h => absurd h (by decide)⟩
theorem Bs.nil (w : World) (f : Nat → Bool) : Bs w none 0 0 f := ⟨Nat.le_refl _, Nat.zero_le _, fun h => absurd h (by decide)⟩
/-- the empty matrix has no flag, after one round -/
theorem purify_nil {N : Nat} (w : World) (hN : N ≤ w.heap.size) (s2 : Bool) (a2 d2 : Option Addr) (na2 ca2 nd2 cd2 L : Nat) (al : Rat) (h2 : Rt N w s2 a2 na2 ca2 d2 nd2 cd2 al L) (hL : L ≤ 2097152) (hb0 : prb al = true) :
    Calls Tryd.prog 15 #[.agg #[.slice none 0 0, .slice none 0 0, .slice none 0 0], .slice none 0 0, .agg #[.bool s2, .slice a2 na2 ca2, .slice d2 nd2 cd2]] w fun e w' => ∃ b, e = .returned (.tuple #[.slice (some ⟨b, 0, none⟩) 0 0, .int .i64 1, .int .i64 0]) ∧ Below w.heap.size w w' := by
  refine (Purify_any (N := N) none none none 0 0 0 0 0 0 (fun _ => 0) (fun _ => 0) (fun _ => none) (fun _ => 0) (fun _ => 0) (fun _ _ => 0) w hN (Is.nil _ _) (Is.nil _ _) (Rw.nil _ _ _ _ _) none 0 0 (fun _ => false) (Bs.nil _ _) s2 a2 d2 na2 ca2 nd2 cd2 L al h2 hL (by decide) (by decide) true hb0).mono ?_
  rintro e w' ⟨⟨c, h0, _, hno⟩ | ⟨b, r, g, rfl, _, _, _, h5, _⟩, hb⟩
  · exact absurd ⟨⟨by decide, by decide, fun i hi => by omega, fun i hi => by omega, rfl, fun i hi => by omega, fun i hi => by omega⟩, rfl, hb0⟩ hno
  · obtain rfl := h5 rfl
    exact ⟨b, rfl, hb⟩

set_option maxRecDepth 20000 in
set_option maxHeartbeats 8000000 in
theorem fawake_any {N : Nat} (w : World) (hN : N ≤ w.heap.size) (htab : TabW w) :
    Calls Tryd.prog 13 #[] w fun e w' => e = .returned (.bool true) ∧ Below w.heap.size w w' := by
  have hN0 := hN
  have HT := Lib.hid htab
  clear htab
  have HB := Lib.hid (Below.refl w.heap.size w)
  obtain ⟨pu, hpu⟩ : ∃ p, sQ (onmS (t4 6 2 3 3)) 1 = p := ⟨_, rfl⟩
  have HPu := Lib.hid hpu
  have Hzu := Lib.hid (show rsz pu ≤ 1 by rw [← hpu, aw_o1]; exact rsz_small _ (by decide +kernel) (by decide +kernel))
  have Htu := Lib.hid (show pu = _ from hpu.symm.trans aw_o1)
  clear hpu
  obtain ⟨pv, hpv⟩ : ∃ p, sQ (odnS (t4 6 2 3 3)) 1 = p := ⟨_, rfl⟩
  have HPv := Lib.hid hpv
  have Hzv := Lib.hid (show rsz pv ≤ 1 by rw [← hpv, aw_o2]; exact rsz_small _ (by decide +kernel) (by decide +kernel))
  have Htv := Lib.hid (show pv = _ from hpv.symm.trans aw_o2)
  clear hpv
  obtain ⟨pp, hpp⟩ : ∃ p, tstS (t4 5 0 0 5) 1 = p := ⟨_, rfl⟩
  have HPp := Lib.hid hpp
  have Hzp := Lib.hid (show rsz pp ≤ 1 by rw [← hpp, aw_t]; exact rsz_small _ (by decide +kernel) (by decide +kernel))
  have Htp := Lib.hid (show pp = _ from hpp.symm.trans aw_t)
  clear hpp
  obtain ⟨pz, hpz⟩ : ∃ p : Rat, mkRat (zI (decide ((1 : Int) < 0) != decide ((20 : Int) < 0)) (1 : Int).natAbs) (20 : Int).natAbs = p := ⟨_, rfl⟩
  have hz20 : pz = mkRat 1 20 := by rw [← hpz]; rfl
  have HPz := Lib.hid hpz
  have Hzz := Lib.hid (show rsz pz ≤ 1 by rw [hz20]; exact rsz_small _ (by decide +kernel) (by decide +kernel))
  have HZP := Lib.hid (show prb pz = true by rw [hz20]; exact aw_p)
  have HK1 := Lib.hid (show claS (tstS (t4 5 0 0 5) 1) pz (sQ (onmS (t4 5 0 0 5)) 1) (sQ (odnS (t4 5 0 0 5)) 1) = 2 by rw [hz20]; exact aw_k)
  have HK2 := Lib.hid (show claS (tstS (swS (t4 5 0 0 5)) 1) pz (sQ (onmS (swS (t4 5 0 0 5))) 1) (sQ (odnS (swS (t4 5 0 0 5))) 1) = -2 by rw [hz20]; exact aw_k2)
  clear hpz hz20
  go_enter Tryd.func13, Tryd.ntmps13
  go_wp2_with fail
  refine calls_name fun W0 hW => ?_
  have hs_W0 : w.heap.size ≤ W0.heap.size := by rw [← hW]; (first | omega | (simp; done) | (simp; omega))
  have HTA := Lib.hid (show Tz W0 (some ⟨w.heap.size, 0, none⟩) 1 1 (t4 6 2 3 3) by rw [← hW]; exact Tz.lit _ _ rfl 6 2 3 3 6 2 3 3 rfl rfl rfl rfl _)
  have HL_W0 := Lib.hid (show Below w.heap.size w W0 by rw [← hW]; exact BlA)
  replace HB := Lib.hid (show Below w.heap.size w W0 by rw [← hW]; exact BlA)
  replace hN : N ≤ W0.heap.size := by rw [← hW]; (first | omega | (simp; done) | (simp; omega))
  have hs0 : w.heap.size ≤ W0.heap.size := by rw [← hW]; (first | omega | (simp; done) | (simp; omega))
  replace HT := Lib.hid (HT.out.below HL_W0.out)
  clear HL_W0
  clear hW
  refine (odds_ok (N := N) _ 1 _ (t4 6 2 3 3) _ hN HTA.out (by decide) aw_c1 pu pv HPu.out HPv.out).mono ?_
  rintro e wa ⟨ru, cu, ru2, cu2, rv, cv, rv2, cv2, rfl, hn1, hn2, hm1, hm2, hb⟩
  have hs_wa : W0.heap.size ≤ wa.heap.size := hb.size
  replace HB := Lib.hid (HB.out.trans (hb.mono hs0))
  replace hN : N ≤ wa.heap.size := Nat.le_trans hN hb.size
  replace hs0 : w.heap.size ≤ wa.heap.size := Nat.le_trans hs0 hb.size
  replace HT := Lib.hid (HT.out.below hb)
  replace HTA := Lib.hid (HTA.out.below hb)
  clear hb
  have HU1 := Lib.hid hn1
  clear hn1
  have HU2 := Lib.hid hn2
  clear hn2
  have HV1 := Lib.hid hm1
  clear hm1
  have HV2 := Lib.hid hm2
  clear hm2
  clear HTA
  go_wp2_with fail
  refine calls_name fun W1 hW => ?_
  have hs_W1 : wa.heap.size ≤ W1.heap.size := by rw [← hW]; (first | omega | (simp; done) | (simp; omega))
  have HK_W1 := Lib.hid (show Kp N wa W1 by rw [← hW]; exact KpA)
  have HTO := Lib.hid (show Tz W1 (some ⟨wa.heap.size + 1 + 1, 0, none⟩) 1 1 (t4 5 0 0 5) by rw [← hW]; exact Tz.lit _ _ (by simp) 5 0 0 5 5 0 0 5 rfl rfl rfl rfl _)
  have HL_W1 := Lib.hid (show Below wa.heap.size wa W1 by rw [← hW]; exact BlA)
  have k_U_0 : W1.cell? ⟨wa.heap.size, 0, none⟩ = some (.bool (decide ((pu).num < 0))) := by rw [← hW]; (first | (go_simp; done) | (simp; done) | (simp [go_sem]; done) | (simp [go_sem]; done))
  have k_U_1 : W1.cell? ⟨wa.heap.size, 1, none⟩ = some (.slice ru (nlen (pu).num.natAbs) cu) := by rw [← hW]; (first | (go_simp; done) | (simp; done) | (simp [go_sem]; done) | (simp [go_sem]; done))
  have k_U_2 : W1.cell? ⟨wa.heap.size, 2, none⟩ = some (.slice ru2 (nlen (pu).den) cu2) := by rw [← hW]; (first | (go_simp; done) | (simp; done) | (simp [go_sem]; done) | (simp [go_sem]; done))
  have f_U : ∀ o, W1.frozen? ⟨wa.heap.size, o, none⟩ = false := by intro o; rw [← hW]; (first | (go_simp; done) | (simp; done) | (simp [go_sem]; done) | (simp [go_sem]; done))
  have HX_U := Lib.hid (show Bn W1 (wa.heap.size) by rw [← hW]; exact KpA)
  have k_V_0 : W1.cell? ⟨wa.heap.size + 1, 0, none⟩ = some (.bool (decide ((pv).num < 0))) := by rw [← hW]; (first | (go_simp; done) | (simp; done) | (simp [go_sem]; done) | (simp [go_sem]; done))
  have k_V_1 : W1.cell? ⟨wa.heap.size + 1, 1, none⟩ = some (.slice rv (nlen (pv).num.natAbs) cv) := by rw [← hW]; (first | (go_simp; done) | (simp; done) | (simp [go_sem]; done) | (simp [go_sem]; done))
  have k_V_2 : W1.cell? ⟨wa.heap.size + 1, 2, none⟩ = some (.slice rv2 (nlen (pv).den) cv2) := by rw [← hW]; (first | (go_simp; done) | (simp; done) | (simp [go_sem]; done) | (simp [go_sem]; done))
  have f_V : ∀ o, W1.frozen? ⟨wa.heap.size + 1, o, none⟩ = false := by intro o; rw [← hW]; (first | (go_simp; done) | (simp; done) | (simp [go_sem]; done) | (simp [go_sem]; done))
  have HX_V := Lib.hid (show Bn W1 (wa.heap.size + 1) by rw [← hW]; exact KpA)
  replace HU1 := Lib.hid (HU1.out.keep HK_W1.out)
  replace HU2 := Lib.hid (HU2.out.keep HK_W1.out)
  replace HV1 := Lib.hid (HV1.out.keep HK_W1.out)
  replace HV2 := Lib.hid (HV2.out.keep HK_W1.out)
  replace HB := Lib.hid (show Below w.heap.size w W1 by rw [← hW]; exact BlA)
  replace hN : N ≤ W1.heap.size := by rw [← hW]; (first | omega | (simp; done) | (simp; omega))
  replace hs0 : w.heap.size ≤ W1.heap.size := by rw [← hW]; (first | omega | (simp; done) | (simp; omega))
  have hl_U : wa.heap.size < W1.heap.size := by rw [← hW]; (first | omega | (simp; done) | (simp; omega))
  have hl_V : wa.heap.size + 1 < W1.heap.size := by rw [← hW]; (first | omega | (simp; done) | (simp; omega))
  replace HT := Lib.hid (HT.out.below HL_W1.out)
  clear HL_W1
  clear hW HK_W1
  refine (test_ok (N := N) _ 1 _ (t4 5 0 0 5) _ hN HTO.out (by decide) aw_c2 aw_s pp HPp.out).mono ?_
  rintro e wb ⟨rp, cp, rp2, cp2, rfl, hn, hn', hb⟩
  have hs_wb : W1.heap.size ≤ wb.heap.size := hb.size
  replace k_U_0 : wb.cell? ⟨wa.heap.size, 0, none⟩ = some (.bool (decide ((pu).num < 0))) := (hb.cell (p := ⟨wa.heap.size, 0, none⟩) hl_U).trans k_U_0
  replace k_U_1 : wb.cell? ⟨wa.heap.size, 1, none⟩ = some (.slice ru (nlen (pu).num.natAbs) cu) := (hb.cell (p := ⟨wa.heap.size, 1, none⟩) hl_U).trans k_U_1
  replace k_U_2 : wb.cell? ⟨wa.heap.size, 2, none⟩ = some (.slice ru2 (nlen (pu).den) cu2) := (hb.cell (p := ⟨wa.heap.size, 2, none⟩) hl_U).trans k_U_2
  replace f_U : ∀ o, wb.frozen? ⟨wa.heap.size, o, none⟩ = false := fun o => (hb.frozen (p := ⟨wa.heap.size, o, none⟩) hl_U).trans (f_U o)
  replace HX_U := Lib.hid (HX_U.out.below hb)
  replace k_V_0 : wb.cell? ⟨wa.heap.size + 1, 0, none⟩ = some (.bool (decide ((pv).num < 0))) := (hb.cell (p := ⟨wa.heap.size + 1, 0, none⟩) hl_V).trans k_V_0
  replace k_V_1 : wb.cell? ⟨wa.heap.size + 1, 1, none⟩ = some (.slice rv (nlen (pv).num.natAbs) cv) := (hb.cell (p := ⟨wa.heap.size + 1, 1, none⟩) hl_V).trans k_V_1
  replace k_V_2 : wb.cell? ⟨wa.heap.size + 1, 2, none⟩ = some (.slice rv2 (nlen (pv).den) cv2) := (hb.cell (p := ⟨wa.heap.size + 1, 2, none⟩) hl_V).trans k_V_2
  replace f_V : ∀ o, wb.frozen? ⟨wa.heap.size + 1, o, none⟩ = false := fun o => (hb.frozen (p := ⟨wa.heap.size + 1, o, none⟩) hl_V).trans (f_V o)
  replace HX_V := Lib.hid (HX_V.out.below hb)
  replace HU1 := Lib.hid (HU1.out.below hb)
  replace HU2 := Lib.hid (HU2.out.below hb)
  replace HV1 := Lib.hid (HV1.out.below hb)
  replace HV2 := Lib.hid (HV2.out.below hb)
  replace HB := Lib.hid (HB.out.trans (hb.mono hs0))
  replace hN : N ≤ wb.heap.size := Nat.le_trans hN hb.size
  replace hs0 : w.heap.size ≤ wb.heap.size := Nat.le_trans hs0 hb.size
  replace hl_U : wa.heap.size < wb.heap.size := Nat.lt_of_lt_of_le hl_U hb.size
  replace hl_V : wa.heap.size + 1 < wb.heap.size := Nat.lt_of_lt_of_le hl_V hb.size
  replace HT := Lib.hid (HT.out.below hb)
  replace HTO := Lib.hid (HTO.out.below hb)
  clear hb
  have HP1 := Lib.hid hn
  clear hn
  have HP2 := Lib.hid hn'
  clear hn'
  go_wp2_with fail
  refine calls_name fun W2 hW => ?_
  have HL_W2 := Lib.hid (show Below wb.heap.size wb W2 by rw [← hW]; exact BlA)
  have hs_W2 : wb.heap.size ≤ W2.heap.size := by rw [← hW]; (first | omega | (simp; done) | (simp; omega))
  have hd_U_P : wa.heap.size < wb.heap.size := by omega
  have hd_V_P : wa.heap.size + 1 < wb.heap.size := by omega
  have HK_W2 := Lib.hid (show Kp N wb W2 by rw [← hW]; exact KpA)
  replace k_U_0 : W2.cell? ⟨wa.heap.size, 0, none⟩ = some (.bool (decide ((pu).num < 0))) := (HL_W2.out.cell (p := ⟨wa.heap.size, 0, none⟩) hl_U).trans k_U_0
  replace k_U_1 : W2.cell? ⟨wa.heap.size, 1, none⟩ = some (.slice ru (nlen (pu).num.natAbs) cu) := (HL_W2.out.cell (p := ⟨wa.heap.size, 1, none⟩) hl_U).trans k_U_1
  replace k_U_2 : W2.cell? ⟨wa.heap.size, 2, none⟩ = some (.slice ru2 (nlen (pu).den) cu2) := (HL_W2.out.cell (p := ⟨wa.heap.size, 2, none⟩) hl_U).trans k_U_2
  replace f_U : ∀ o, W2.frozen? ⟨wa.heap.size, o, none⟩ = false := fun o => (HL_W2.out.frozen (p := ⟨wa.heap.size, o, none⟩) hl_U).trans (f_U o)
  replace HX_U := Lib.hid (show Bn W2 (wa.heap.size) by rw [← hW]; exact KpA)
  replace k_V_0 : W2.cell? ⟨wa.heap.size + 1, 0, none⟩ = some (.bool (decide ((pv).num < 0))) := (HL_W2.out.cell (p := ⟨wa.heap.size + 1, 0, none⟩) hl_V).trans k_V_0
  replace k_V_1 : W2.cell? ⟨wa.heap.size + 1, 1, none⟩ = some (.slice rv (nlen (pv).num.natAbs) cv) := (HL_W2.out.cell (p := ⟨wa.heap.size + 1, 1, none⟩) hl_V).trans k_V_1
  replace k_V_2 : W2.cell? ⟨wa.heap.size + 1, 2, none⟩ = some (.slice rv2 (nlen (pv).den) cv2) := (HL_W2.out.cell (p := ⟨wa.heap.size + 1, 2, none⟩) hl_V).trans k_V_2
  replace f_V : ∀ o, W2.frozen? ⟨wa.heap.size + 1, o, none⟩ = false := fun o => (HL_W2.out.frozen (p := ⟨wa.heap.size + 1, o, none⟩) hl_V).trans (f_V o)
  replace HX_V := Lib.hid (show Bn W2 (wa.heap.size + 1) by rw [← hW]; exact KpA)
  have k_P_0 : W2.cell? ⟨wb.heap.size, 0, none⟩ = some (.bool (decide ((pp).num < 0))) := by rw [← hW]; (first | (go_simp; done) | (simp; done) | (simp [go_sem]; done) | (simp [go_sem, k_U_0, k_U_1, k_U_2, k_V_0, k_V_1, k_V_2, f_U, f_V, hl_U, hl_V]; done))
  have k_P_1 : W2.cell? ⟨wb.heap.size, 1, none⟩ = some (.slice rp (nlen (pp).num.natAbs) cp) := by rw [← hW]; (first | (go_simp; done) | (simp; done) | (simp [go_sem]; done) | (simp [go_sem, k_U_0, k_U_1, k_U_2, k_V_0, k_V_1, k_V_2, f_U, f_V, hl_U, hl_V]; done))
  have k_P_2 : W2.cell? ⟨wb.heap.size, 2, none⟩ = some (.slice rp2 (nlen (pp).den) cp2) := by rw [← hW]; (first | (go_simp; done) | (simp; done) | (simp [go_sem]; done) | (simp [go_sem, k_U_0, k_U_1, k_U_2, k_V_0, k_V_1, k_V_2, f_U, f_V, hl_U, hl_V]; done))
  have f_P : ∀ o, W2.frozen? ⟨wb.heap.size, o, none⟩ = false := by intro o; rw [← hW]; (first | (go_simp; done) | (simp; done) | (simp [go_sem]; done) | (simp [go_sem, k_U_0, k_U_1, k_U_2, k_V_0, k_V_1, k_V_2, f_U, f_V, hl_U, hl_V]; done))
  have HX_P := Lib.hid (show Bn W2 (wb.heap.size) by rw [← hW]; exact KpA)
  replace HU1 := Lib.hid (HU1.out.keep HK_W2.out)
  replace HU2 := Lib.hid (HU2.out.keep HK_W2.out)
  replace HV1 := Lib.hid (HV1.out.keep HK_W2.out)
  replace HV2 := Lib.hid (HV2.out.keep HK_W2.out)
  replace HP1 := Lib.hid (HP1.out.keep HK_W2.out)
  replace HP2 := Lib.hid (HP2.out.keep HK_W2.out)
  replace HB := Lib.hid (show Below w.heap.size w W2 by rw [← hW]; exact BlA)
  replace hN : N ≤ W2.heap.size := by rw [← hW]; (first | omega | (simp; done) | (simp; omega))
  replace hs0 : w.heap.size ≤ W2.heap.size := by rw [← hW]; (first | omega | (simp; done) | (simp; omega))
  replace hl_U : wa.heap.size < W2.heap.size := by rw [← hW]; (first | omega | (simp; done) | (simp; omega))
  replace hl_V : wa.heap.size + 1 < W2.heap.size := by rw [← hW]; (first | omega | (simp; done) | (simp; omega))
  have hl_P : wb.heap.size < W2.heap.size := by rw [← hW]; (first | omega | (simp; done) | (simp; omega))
  replace HT := Lib.hid (HT.out.below HL_W2.out)
  replace HTO := Lib.hid (HTO.out.below HL_W2.out)
  clear HL_W2
  clear hW HK_W2
  refine (rof_any (N := N) 1 20 _ hN (by decide) (by decide) (by decide) (by decide) pz HPz.out).mono ?_
  rintro e wc ⟨rz, cz, rz2, cz2, rfl, hn, hn', hb⟩
  have hs_wc : W2.heap.size ≤ wc.heap.size := hb.size
  replace k_U_0 : wc.cell? ⟨wa.heap.size, 0, none⟩ = some (.bool (decide ((pu).num < 0))) := (hb.cell (p := ⟨wa.heap.size, 0, none⟩) hl_U).trans k_U_0
  replace k_U_1 : wc.cell? ⟨wa.heap.size, 1, none⟩ = some (.slice ru (nlen (pu).num.natAbs) cu) := (hb.cell (p := ⟨wa.heap.size, 1, none⟩) hl_U).trans k_U_1
  replace k_U_2 : wc.cell? ⟨wa.heap.size, 2, none⟩ = some (.slice ru2 (nlen (pu).den) cu2) := (hb.cell (p := ⟨wa.heap.size, 2, none⟩) hl_U).trans k_U_2
  replace f_U : ∀ o, wc.frozen? ⟨wa.heap.size, o, none⟩ = false := fun o => (hb.frozen (p := ⟨wa.heap.size, o, none⟩) hl_U).trans (f_U o)
  replace HX_U := Lib.hid (HX_U.out.below hb)
  replace k_V_0 : wc.cell? ⟨wa.heap.size + 1, 0, none⟩ = some (.bool (decide ((pv).num < 0))) := (hb.cell (p := ⟨wa.heap.size + 1, 0, none⟩) hl_V).trans k_V_0
  replace k_V_1 : wc.cell? ⟨wa.heap.size + 1, 1, none⟩ = some (.slice rv (nlen (pv).num.natAbs) cv) := (hb.cell (p := ⟨wa.heap.size + 1, 1, none⟩) hl_V).trans k_V_1
  replace k_V_2 : wc.cell? ⟨wa.heap.size + 1, 2, none⟩ = some (.slice rv2 (nlen (pv).den) cv2) := (hb.cell (p := ⟨wa.heap.size + 1, 2, none⟩) hl_V).trans k_V_2
  replace f_V : ∀ o, wc.frozen? ⟨wa.heap.size + 1, o, none⟩ = false := fun o => (hb.frozen (p := ⟨wa.heap.size + 1, o, none⟩) hl_V).trans (f_V o)
  replace HX_V := Lib.hid (HX_V.out.below hb)
  replace k_P_0 : wc.cell? ⟨wb.heap.size, 0, none⟩ = some (.bool (decide ((pp).num < 0))) := (hb.cell (p := ⟨wb.heap.size, 0, none⟩) hl_P).trans k_P_0
  replace k_P_1 : wc.cell? ⟨wb.heap.size, 1, none⟩ = some (.slice rp (nlen (pp).num.natAbs) cp) := (hb.cell (p := ⟨wb.heap.size, 1, none⟩) hl_P).trans k_P_1
  replace k_P_2 : wc.cell? ⟨wb.heap.size, 2, none⟩ = some (.slice rp2 (nlen (pp).den) cp2) := (hb.cell (p := ⟨wb.heap.size, 2, none⟩) hl_P).trans k_P_2
  replace f_P : ∀ o, wc.frozen? ⟨wb.heap.size, o, none⟩ = false := fun o => (hb.frozen (p := ⟨wb.heap.size, o, none⟩) hl_P).trans (f_P o)
  replace HX_P := Lib.hid (HX_P.out.below hb)
  replace HU1 := Lib.hid (HU1.out.below hb)
  replace HU2 := Lib.hid (HU2.out.below hb)
  replace HV1 := Lib.hid (HV1.out.below hb)
  replace HV2 := Lib.hid (HV2.out.below hb)
  replace HP1 := Lib.hid (HP1.out.below hb)
  replace HP2 := Lib.hid (HP2.out.below hb)
  replace HB := Lib.hid (HB.out.trans (hb.mono hs0))
  replace hN : N ≤ wc.heap.size := Nat.le_trans hN hb.size
  replace hs0 : w.heap.size ≤ wc.heap.size := Nat.le_trans hs0 hb.size
  replace hl_U : wa.heap.size < wc.heap.size := Nat.lt_of_lt_of_le hl_U hb.size
  replace hl_V : wa.heap.size + 1 < wc.heap.size := Nat.lt_of_lt_of_le hl_V hb.size
  replace hl_P : wb.heap.size < wc.heap.size := Nat.lt_of_lt_of_le hl_P hb.size
  replace HT := Lib.hid (HT.out.below hb)
  replace HTO := Lib.hid (HTO.out.below hb)
  clear hb
  have HZ1 := Lib.hid hn
  clear hn
  have HZ2 := Lib.hid hn'
  clear hn'
  go_wp2_with fail
  refine calls_name fun W3 hW => ?_
  have HL_W3 := Lib.hid (show Below wc.heap.size wc W3 by rw [← hW]; exact BlA)
  have hs_W3 : wc.heap.size ≤ W3.heap.size := by rw [← hW]; (first | omega | (simp; done) | (simp; omega))
  have hd_U_Z : wa.heap.size < wc.heap.size := by omega
  have hd_V_Z : wa.heap.size + 1 < wc.heap.size := by omega
  have hd_P_Z : wb.heap.size < wc.heap.size := by omega
  have HK_W3 := Lib.hid (show Kp N wc W3 by rw [← hW]; exact KpA)
  replace k_U_0 : W3.cell? ⟨wa.heap.size, 0, none⟩ = some (.bool (decide ((pu).num < 0))) := (HL_W3.out.cell (p := ⟨wa.heap.size, 0, none⟩) hl_U).trans k_U_0
  replace k_U_1 : W3.cell? ⟨wa.heap.size, 1, none⟩ = some (.slice ru (nlen (pu).num.natAbs) cu) := (HL_W3.out.cell (p := ⟨wa.heap.size, 1, none⟩) hl_U).trans k_U_1
  replace k_U_2 : W3.cell? ⟨wa.heap.size, 2, none⟩ = some (.slice ru2 (nlen (pu).den) cu2) := (HL_W3.out.cell (p := ⟨wa.heap.size, 2, none⟩) hl_U).trans k_U_2
  replace f_U : ∀ o, W3.frozen? ⟨wa.heap.size, o, none⟩ = false := fun o => (HL_W3.out.frozen (p := ⟨wa.heap.size, o, none⟩) hl_U).trans (f_U o)
  replace HX_U := Lib.hid (show Bn W3 (wa.heap.size) by rw [← hW]; exact KpA)
  replace k_V_0 : W3.cell? ⟨wa.heap.size + 1, 0, none⟩ = some (.bool (decide ((pv).num < 0))) := (HL_W3.out.cell (p := ⟨wa.heap.size + 1, 0, none⟩) hl_V).trans k_V_0
  replace k_V_1 : W3.cell? ⟨wa.heap.size + 1, 1, none⟩ = some (.slice rv (nlen (pv).num.natAbs) cv) := (HL_W3.out.cell (p := ⟨wa.heap.size + 1, 1, none⟩) hl_V).trans k_V_1
  replace k_V_2 : W3.cell? ⟨wa.heap.size + 1, 2, none⟩ = some (.slice rv2 (nlen (pv).den) cv2) := (HL_W3.out.cell (p := ⟨wa.heap.size + 1, 2, none⟩) hl_V).trans k_V_2
  replace f_V : ∀ o, W3.frozen? ⟨wa.heap.size + 1, o, none⟩ = false := fun o => (HL_W3.out.frozen (p := ⟨wa.heap.size + 1, o, none⟩) hl_V).trans (f_V o)
  replace HX_V := Lib.hid (show Bn W3 (wa.heap.size + 1) by rw [← hW]; exact KpA)
  replace k_P_0 : W3.cell? ⟨wb.heap.size, 0, none⟩ = some (.bool (decide ((pp).num < 0))) := (HL_W3.out.cell (p := ⟨wb.heap.size, 0, none⟩) hl_P).trans k_P_0
  replace k_P_1 : W3.cell? ⟨wb.heap.size, 1, none⟩ = some (.slice rp (nlen (pp).num.natAbs) cp) := (HL_W3.out.cell (p := ⟨wb.heap.size, 1, none⟩) hl_P).trans k_P_1
  replace k_P_2 : W3.cell? ⟨wb.heap.size, 2, none⟩ = some (.slice rp2 (nlen (pp).den) cp2) := (HL_W3.out.cell (p := ⟨wb.heap.size, 2, none⟩) hl_P).trans k_P_2
  replace f_P : ∀ o, W3.frozen? ⟨wb.heap.size, o, none⟩ = false := fun o => (HL_W3.out.frozen (p := ⟨wb.heap.size, o, none⟩) hl_P).trans (f_P o)
  replace HX_P := Lib.hid (show Bn W3 (wb.heap.size) by rw [← hW]; exact KpA)
  have k_Z_0 : W3.cell? ⟨wc.heap.size, 0, none⟩ = some (.bool (decide ((pz).num < 0))) := by rw [← hW]; (first | (go_simp; done) | (simp; done) | (simp [go_sem]; done) | (simp [go_sem, k_U_0, k_U_1, k_U_2, k_V_0, k_V_1, k_V_2, k_P_0, k_P_1, k_P_2, f_U, f_V, f_P, hl_U, hl_V, hl_P]; done))
  have k_Z_1 : W3.cell? ⟨wc.heap.size, 1, none⟩ = some (.slice rz (nlen (pz).num.natAbs) cz) := by rw [← hW]; (first | (go_simp; done) | (simp; done) | (simp [go_sem]; done) | (simp [go_sem, k_U_0, k_U_1, k_U_2, k_V_0, k_V_1, k_V_2, k_P_0, k_P_1, k_P_2, f_U, f_V, f_P, hl_U, hl_V, hl_P]; done))
  have k_Z_2 : W3.cell? ⟨wc.heap.size, 2, none⟩ = some (.slice rz2 (nlen (pz).den) cz2) := by rw [← hW]; (first | (go_simp; done) | (simp; done) | (simp [go_sem]; done) | (simp [go_sem, k_U_0, k_U_1, k_U_2, k_V_0, k_V_1, k_V_2, k_P_0, k_P_1, k_P_2, f_U, f_V, f_P, hl_U, hl_V, hl_P]; done))
  have f_Z : ∀ o, W3.frozen? ⟨wc.heap.size, o, none⟩ = false := by intro o; rw [← hW]; (first | (go_simp; done) | (simp; done) | (simp [go_sem]; done) | (simp [go_sem, k_U_0, k_U_1, k_U_2, k_V_0, k_V_1, k_V_2, k_P_0, k_P_1, k_P_2, f_U, f_V, f_P, hl_U, hl_V, hl_P]; done))
  have HX_Z := Lib.hid (show Bn W3 (wc.heap.size) by rw [← hW]; exact KpA)
  replace HU1 := Lib.hid (HU1.out.keep HK_W3.out)
  replace HU2 := Lib.hid (HU2.out.keep HK_W3.out)
  replace HV1 := Lib.hid (HV1.out.keep HK_W3.out)
  replace HV2 := Lib.hid (HV2.out.keep HK_W3.out)
  replace HP1 := Lib.hid (HP1.out.keep HK_W3.out)
  replace HP2 := Lib.hid (HP2.out.keep HK_W3.out)
  replace HZ1 := Lib.hid (HZ1.out.keep HK_W3.out)
  replace HZ2 := Lib.hid (HZ2.out.keep HK_W3.out)
  replace HB := Lib.hid (show Below w.heap.size w W3 by rw [← hW]; exact BlA)
  replace hN : N ≤ W3.heap.size := by rw [← hW]; (first | omega | (simp; done) | (simp; omega))
  replace hs0 : w.heap.size ≤ W3.heap.size := by rw [← hW]; (first | omega | (simp; done) | (simp; omega))
  replace hl_U : wa.heap.size < W3.heap.size := by rw [← hW]; (first | omega | (simp; done) | (simp; omega))
  replace hl_V : wa.heap.size + 1 < W3.heap.size := by rw [← hW]; (first | omega | (simp; done) | (simp; omega))
  replace hl_P : wb.heap.size < W3.heap.size := by rw [← hW]; (first | omega | (simp; done) | (simp; omega))
  have hl_Z : wc.heap.size < W3.heap.size := by rw [← hW]; (first | omega | (simp; done) | (simp; omega))
  replace HT := Lib.hid (HT.out.below HL_W3.out)
  replace HTO := Lib.hid (HTO.out.below HL_W3.out)
  clear HL_W3
  clear hW HK_W3
  refine (class_ok (N := N) _ 1 _ (t4 5 0 0 5) _ hN HTO.out (by decide) aw_c2 aw_s _ _ _ _ _ _ _ 1 pz (Rt.of_norm HZ1.out HZ2.out 1 Hzz.out) (by decide) true HZP.out 2 HK1.out).mono ?_
  rintro e wd ⟨rfl, hb⟩
  have hs_wd : W3.heap.size ≤ wd.heap.size := hb.size
  replace k_U_0 : wd.cell? ⟨wa.heap.size, 0, none⟩ = some (.bool (decide ((pu).num < 0))) := (hb.cell (p := ⟨wa.heap.size, 0, none⟩) hl_U).trans k_U_0
  replace k_U_1 : wd.cell? ⟨wa.heap.size, 1, none⟩ = some (.slice ru (nlen (pu).num.natAbs) cu) := (hb.cell (p := ⟨wa.heap.size, 1, none⟩) hl_U).trans k_U_1
  replace k_U_2 : wd.cell? ⟨wa.heap.size, 2, none⟩ = some (.slice ru2 (nlen (pu).den) cu2) := (hb.cell (p := ⟨wa.heap.size, 2, none⟩) hl_U).trans k_U_2
  replace f_U : ∀ o, wd.frozen? ⟨wa.heap.size, o, none⟩ = false := fun o => (hb.frozen (p := ⟨wa.heap.size, o, none⟩) hl_U).trans (f_U o)
  replace HX_U := Lib.hid (HX_U.out.below hb)
  replace k_V_0 : wd.cell? ⟨wa.heap.size + 1, 0, none⟩ = some (.bool (decide ((pv).num < 0))) := (hb.cell (p := ⟨wa.heap.size + 1, 0, none⟩) hl_V).trans k_V_0
  replace k_V_1 : wd.cell? ⟨wa.heap.size + 1, 1, none⟩ = some (.slice rv (nlen (pv).num.natAbs) cv) := (hb.cell (p := ⟨wa.heap.size + 1, 1, none⟩) hl_V).trans k_V_1
  replace k_V_2 : wd.cell? ⟨wa.heap.size + 1, 2, none⟩ = some (.slice rv2 (nlen (pv).den) cv2) := (hb.cell (p := ⟨wa.heap.size + 1, 2, none⟩) hl_V).trans k_V_2
  replace f_V : ∀ o, wd.frozen? ⟨wa.heap.size + 1, o, none⟩ = false := fun o => (hb.frozen (p := ⟨wa.heap.size + 1, o, none⟩) hl_V).trans (f_V o)
  replace HX_V := Lib.hid (HX_V.out.below hb)
  replace k_P_0 : wd.cell? ⟨wb.heap.size, 0, none⟩ = some (.bool (decide ((pp).num < 0))) := (hb.cell (p := ⟨wb.heap.size, 0, none⟩) hl_P).trans k_P_0
  replace k_P_1 : wd.cell? ⟨wb.heap.size, 1, none⟩ = some (.slice rp (nlen (pp).num.natAbs) cp) := (hb.cell (p := ⟨wb.heap.size, 1, none⟩) hl_P).trans k_P_1
  replace k_P_2 : wd.cell? ⟨wb.heap.size, 2, none⟩ = some (.slice rp2 (nlen (pp).den) cp2) := (hb.cell (p := ⟨wb.heap.size, 2, none⟩) hl_P).trans k_P_2
  replace f_P : ∀ o, wd.frozen? ⟨wb.heap.size, o, none⟩ = false := fun o => (hb.frozen (p := ⟨wb.heap.size, o, none⟩) hl_P).trans (f_P o)
  replace HX_P := Lib.hid (HX_P.out.below hb)
  replace k_Z_0 : wd.cell? ⟨wc.heap.size, 0, none⟩ = some (.bool (decide ((pz).num < 0))) := (hb.cell (p := ⟨wc.heap.size, 0, none⟩) hl_Z).trans k_Z_0
  replace k_Z_1 : wd.cell? ⟨wc.heap.size, 1, none⟩ = some (.slice rz (nlen (pz).num.natAbs) cz) := (hb.cell (p := ⟨wc.heap.size, 1, none⟩) hl_Z).trans k_Z_1
  replace k_Z_2 : wd.cell? ⟨wc.heap.size, 2, none⟩ = some (.slice rz2 (nlen (pz).den) cz2) := (hb.cell (p := ⟨wc.heap.size, 2, none⟩) hl_Z).trans k_Z_2
  replace f_Z : ∀ o, wd.frozen? ⟨wc.heap.size, o, none⟩ = false := fun o => (hb.frozen (p := ⟨wc.heap.size, o, none⟩) hl_Z).trans (f_Z o)
  replace HX_Z := Lib.hid (HX_Z.out.below hb)
  replace HU1 := Lib.hid (HU1.out.below hb)
  replace HU2 := Lib.hid (HU2.out.below hb)
  replace HV1 := Lib.hid (HV1.out.below hb)
  replace HV2 := Lib.hid (HV2.out.below hb)
  replace HP1 := Lib.hid (HP1.out.below hb)
  replace HP2 := Lib.hid (HP2.out.below hb)
  replace HZ1 := Lib.hid (HZ1.out.below hb)
  replace HZ2 := Lib.hid (HZ2.out.below hb)
  replace HB := Lib.hid (HB.out.trans (hb.mono hs0))
  replace hN : N ≤ wd.heap.size := Nat.le_trans hN hb.size
  replace hs0 : w.heap.size ≤ wd.heap.size := Nat.le_trans hs0 hb.size
  replace hl_U : wa.heap.size < wd.heap.size := Nat.lt_of_lt_of_le hl_U hb.size
  replace hl_V : wa.heap.size + 1 < wd.heap.size := Nat.lt_of_lt_of_le hl_V hb.size
  replace hl_P : wb.heap.size < wd.heap.size := Nat.lt_of_lt_of_le hl_P hb.size
  replace hl_Z : wc.heap.size < wd.heap.size := Nat.lt_of_lt_of_le hl_Z hb.size
  replace HT := Lib.hid (HT.out.below hb)
  replace HTO := Lib.hid (HTO.out.below hb)
  clear hb
  go_wp2_with fail
  refine region_name fun W4 hW => ?_
  have HL_W4 := Lib.hid (show Below wd.heap.size wd W4 by rw [← hW]; exact BlA)
  have hs_W4 : wd.heap.size ≤ W4.heap.size := by rw [← hW]; (first | omega | (simp; done) | (simp; omega))
  have HK_W4 := Lib.hid (show Kp N wd W4 by rw [← hW]; exact KpA)
  replace k_U_0 : W4.cell? ⟨wa.heap.size, 0, none⟩ = some (.bool (decide ((pu).num < 0))) := (HL_W4.out.cell (p := ⟨wa.heap.size, 0, none⟩) hl_U).trans k_U_0
  replace k_U_1 : W4.cell? ⟨wa.heap.size, 1, none⟩ = some (.slice ru (nlen (pu).num.natAbs) cu) := (HL_W4.out.cell (p := ⟨wa.heap.size, 1, none⟩) hl_U).trans k_U_1
  replace k_U_2 : W4.cell? ⟨wa.heap.size, 2, none⟩ = some (.slice ru2 (nlen (pu).den) cu2) := (HL_W4.out.cell (p := ⟨wa.heap.size, 2, none⟩) hl_U).trans k_U_2
  replace f_U : ∀ o, W4.frozen? ⟨wa.heap.size, o, none⟩ = false := fun o => (HL_W4.out.frozen (p := ⟨wa.heap.size, o, none⟩) hl_U).trans (f_U o)
  replace HX_U := Lib.hid (show Bn W4 (wa.heap.size) by rw [← hW]; exact KpA)
  replace k_V_0 : W4.cell? ⟨wa.heap.size + 1, 0, none⟩ = some (.bool (decide ((pv).num < 0))) := (HL_W4.out.cell (p := ⟨wa.heap.size + 1, 0, none⟩) hl_V).trans k_V_0
  replace k_V_1 : W4.cell? ⟨wa.heap.size + 1, 1, none⟩ = some (.slice rv (nlen (pv).num.natAbs) cv) := (HL_W4.out.cell (p := ⟨wa.heap.size + 1, 1, none⟩) hl_V).trans k_V_1
  replace k_V_2 : W4.cell? ⟨wa.heap.size + 1, 2, none⟩ = some (.slice rv2 (nlen (pv).den) cv2) := (HL_W4.out.cell (p := ⟨wa.heap.size + 1, 2, none⟩) hl_V).trans k_V_2
  replace f_V : ∀ o, W4.frozen? ⟨wa.heap.size + 1, o, none⟩ = false := fun o => (HL_W4.out.frozen (p := ⟨wa.heap.size + 1, o, none⟩) hl_V).trans (f_V o)
  replace HX_V := Lib.hid (show Bn W4 (wa.heap.size + 1) by rw [← hW]; exact KpA)
  replace k_P_0 : W4.cell? ⟨wb.heap.size, 0, none⟩ = some (.bool (decide ((pp).num < 0))) := (HL_W4.out.cell (p := ⟨wb.heap.size, 0, none⟩) hl_P).trans k_P_0
  replace k_P_1 : W4.cell? ⟨wb.heap.size, 1, none⟩ = some (.slice rp (nlen (pp).num.natAbs) cp) := (HL_W4.out.cell (p := ⟨wb.heap.size, 1, none⟩) hl_P).trans k_P_1
  replace k_P_2 : W4.cell? ⟨wb.heap.size, 2, none⟩ = some (.slice rp2 (nlen (pp).den) cp2) := (HL_W4.out.cell (p := ⟨wb.heap.size, 2, none⟩) hl_P).trans k_P_2
  replace f_P : ∀ o, W4.frozen? ⟨wb.heap.size, o, none⟩ = false := fun o => (HL_W4.out.frozen (p := ⟨wb.heap.size, o, none⟩) hl_P).trans (f_P o)
  replace HX_P := Lib.hid (show Bn W4 (wb.heap.size) by rw [← hW]; exact KpA)
  replace k_Z_0 : W4.cell? ⟨wc.heap.size, 0, none⟩ = some (.bool (decide ((pz).num < 0))) := (HL_W4.out.cell (p := ⟨wc.heap.size, 0, none⟩) hl_Z).trans k_Z_0
  replace k_Z_1 : W4.cell? ⟨wc.heap.size, 1, none⟩ = some (.slice rz (nlen (pz).num.natAbs) cz) := (HL_W4.out.cell (p := ⟨wc.heap.size, 1, none⟩) hl_Z).trans k_Z_1
  replace k_Z_2 : W4.cell? ⟨wc.heap.size, 2, none⟩ = some (.slice rz2 (nlen (pz).den) cz2) := (HL_W4.out.cell (p := ⟨wc.heap.size, 2, none⟩) hl_Z).trans k_Z_2
  replace f_Z : ∀ o, W4.frozen? ⟨wc.heap.size, o, none⟩ = false := fun o => (HL_W4.out.frozen (p := ⟨wc.heap.size, o, none⟩) hl_Z).trans (f_Z o)
  replace HX_Z := Lib.hid (show Bn W4 (wc.heap.size) by rw [← hW]; exact KpA)
  replace HU1 := Lib.hid (HU1.out.keep HK_W4.out)
  replace HU2 := Lib.hid (HU2.out.keep HK_W4.out)
  replace HV1 := Lib.hid (HV1.out.keep HK_W4.out)
  replace HV2 := Lib.hid (HV2.out.keep HK_W4.out)
  replace HP1 := Lib.hid (HP1.out.keep HK_W4.out)
  replace HP2 := Lib.hid (HP2.out.keep HK_W4.out)
  replace HZ1 := Lib.hid (HZ1.out.keep HK_W4.out)
  replace HZ2 := Lib.hid (HZ2.out.keep HK_W4.out)
  replace HB := Lib.hid (show Below w.heap.size w W4 by rw [← hW]; exact BlA)
  replace hN : N ≤ W4.heap.size := by rw [← hW]; (first | omega | (simp; done) | (simp; omega))
  replace hs0 : w.heap.size ≤ W4.heap.size := by rw [← hW]; (first | omega | (simp; done) | (simp; omega))
  replace hl_U : wa.heap.size < W4.heap.size := by rw [← hW]; (first | omega | (simp; done) | (simp; omega))
  replace hl_V : wa.heap.size + 1 < W4.heap.size := by rw [← hW]; (first | omega | (simp; done) | (simp; omega))
  replace hl_P : wb.heap.size < W4.heap.size := by rw [← hW]; (first | omega | (simp; done) | (simp; omega))
  replace hl_Z : wc.heap.size < W4.heap.size := by rw [← hW]; (first | omega | (simp; done) | (simp; omega))
  replace HT := Lib.hid (HT.out.below HL_W4.out)
  replace HTO := Lib.hid (HTO.out.below HL_W4.out)
  clear HL_W4
  clear hW HK_W4
  go_region_held3 (fun w' => w'.cell? ⟨wc.heap.size, 0, none⟩ = some (.bool (decide ((pz).num < 0))) ∧ w'.cell? ⟨wc.heap.size, 1, none⟩ = some (.slice rz (nlen (pz).num.natAbs) cz) ∧ w'.cell? ⟨wc.heap.size, 2, none⟩ = some (.slice rz2 (nlen (pz).den) cz2))
    (first | (go_keep; done) | ((try dsimp only); (repeat' apply And.intro) <;> (first | (go_keep; done) | (exact cell_keep_alloc_drew (by first | omega | (simp; omega)) (by first | assumption | go_simp)) | (exact cell_keep_alloc (by first | omega | (simp; omega)) (by first | assumption | go_simp)) | (rw [cell_set2 _ _ _ _ _ _ _ _ (by omega)]; assumption) | (rw [cell_set3 _ _ _ _ _ _ _ _ _ _ (by omega)]; assumption))))
    (first
      | (go_at_call 8; refine (swapped_any _ 1 _ (t4 5 0 0 5) _ (by exact HTO.out) (by decide) aw_c2).mono ?_; rintro e we ⟨qa, qc, rfl, hsw, hb⟩; replace hb : Below W4.heap.size W4 we := (by first | exact hb | exact bel_of_drew hb); have HSW := Lib.hid hsw; clear hsw; have hs_we : W4.heap.size ≤ we.heap.size := hb.size; replace k_U_0 : we.cell? ⟨wa.heap.size, 0, none⟩ = some (.bool (decide ((pu).num < 0))) := (hb.cell (p := ⟨wa.heap.size, 0, none⟩) hl_U).trans k_U_0; replace k_U_1 : we.cell? ⟨wa.heap.size, 1, none⟩ = some (.slice ru (nlen (pu).num.natAbs) cu) := (hb.cell (p := ⟨wa.heap.size, 1, none⟩) hl_U).trans k_U_1; replace k_U_2 : we.cell? ⟨wa.heap.size, 2, none⟩ = some (.slice ru2 (nlen (pu).den) cu2) := (hb.cell (p := ⟨wa.heap.size, 2, none⟩) hl_U).trans k_U_2; replace f_U : ∀ o, we.frozen? ⟨wa.heap.size, o, none⟩ = false := fun o => (hb.frozen (p := ⟨wa.heap.size, o, none⟩) hl_U).trans (f_U o); replace HX_U := Lib.hid (HX_U.out.below hb); replace k_V_0 : we.cell? ⟨wa.heap.size + 1, 0, none⟩ = some (.bool (decide ((pv).num < 0))) := (hb.cell (p := ⟨wa.heap.size + 1, 0, none⟩) hl_V).trans k_V_0; replace k_V_1 : we.cell? ⟨wa.heap.size + 1, 1, none⟩ = some (.slice rv (nlen (pv).num.natAbs) cv) := (hb.cell (p := ⟨wa.heap.size + 1, 1, none⟩) hl_V).trans k_V_1; replace k_V_2 : we.cell? ⟨wa.heap.size + 1, 2, none⟩ = some (.slice rv2 (nlen (pv).den) cv2) := (hb.cell (p := ⟨wa.heap.size + 1, 2, none⟩) hl_V).trans k_V_2; replace f_V : ∀ o, we.frozen? ⟨wa.heap.size + 1, o, none⟩ = false := fun o => (hb.frozen (p := ⟨wa.heap.size + 1, o, none⟩) hl_V).trans (f_V o); replace HX_V := Lib.hid (HX_V.out.below hb); replace k_P_0 : we.cell? ⟨wb.heap.size, 0, none⟩ = some (.bool (decide ((pp).num < 0))) := (hb.cell (p := ⟨wb.heap.size, 0, none⟩) hl_P).trans k_P_0; replace k_P_1 : we.cell? ⟨wb.heap.size, 1, none⟩ = some (.slice rp (nlen (pp).num.natAbs) cp) := (hb.cell (p := ⟨wb.heap.size, 1, none⟩) hl_P).trans k_P_1; replace k_P_2 : we.cell? ⟨wb.heap.size, 2, none⟩ = some (.slice rp2 (nlen (pp).den) cp2) := (hb.cell (p := ⟨wb.heap.size, 2, none⟩) hl_P).trans k_P_2; replace f_P : ∀ o, we.frozen? ⟨wb.heap.size, o, none⟩ = false := fun o => (hb.frozen (p := ⟨wb.heap.size, o, none⟩) hl_P).trans (f_P o); replace HX_P := Lib.hid (HX_P.out.below hb); replace k_Z_0 : we.cell? ⟨wc.heap.size, 0, none⟩ = some (.bool (decide ((pz).num < 0))) := (hb.cell (p := ⟨wc.heap.size, 0, none⟩) hl_Z).trans k_Z_0; replace k_Z_1 : we.cell? ⟨wc.heap.size, 1, none⟩ = some (.slice rz (nlen (pz).num.natAbs) cz) := (hb.cell (p := ⟨wc.heap.size, 1, none⟩) hl_Z).trans k_Z_1; replace k_Z_2 : we.cell? ⟨wc.heap.size, 2, none⟩ = some (.slice rz2 (nlen (pz).den) cz2) := (hb.cell (p := ⟨wc.heap.size, 2, none⟩) hl_Z).trans k_Z_2; replace f_Z : ∀ o, we.frozen? ⟨wc.heap.size, o, none⟩ = false := fun o => (hb.frozen (p := ⟨wc.heap.size, o, none⟩) hl_Z).trans (f_Z o); replace HX_Z := Lib.hid (HX_Z.out.below hb); replace HU1 := Lib.hid (HU1.out.below hb); replace HU2 := Lib.hid (HU2.out.below hb); replace HV1 := Lib.hid (HV1.out.below hb); replace HV2 := Lib.hid (HV2.out.below hb); replace HP1 := Lib.hid (HP1.out.below hb); replace HP2 := Lib.hid (HP2.out.below hb); replace HZ1 := Lib.hid (HZ1.out.below hb); replace HZ2 := Lib.hid (HZ2.out.below hb); replace HB := Lib.hid (HB.out.trans (hb.mono hs0)); replace hN : N ≤ we.heap.size := Nat.le_trans hN hb.size; replace hs0 : w.heap.size ≤ we.heap.size := Nat.le_trans hs0 hb.size; replace hl_U : wa.heap.size < we.heap.size := Nat.lt_of_lt_of_le hl_U hb.size; replace hl_V : wa.heap.size + 1 < we.heap.size := Nat.lt_of_lt_of_le hl_V hb.size; replace hl_P : wb.heap.size < we.heap.size := Nat.lt_of_lt_of_le hl_P hb.size; replace hl_Z : wc.heap.size < we.heap.size := Nat.lt_of_lt_of_le hl_Z hb.size; replace HT := Lib.hid (HT.out.below hb); replace HTO := Lib.hid (HTO.out.below hb); clear hb; skip)
      | (go_at_call 12; refine (class_ok (N := N) _ 1 _ (swS (t4 5 0 0 5)) _ (by exact hN) (by exact HSW.out) (by decide) (swS_cnt aw_c2) aw_s2 _ _ _ _ _ _ _ 1 pz (by exact (Rt.of_norm HZ1.out HZ2.out 1 Hzz.out)) (by decide) true HZP.out (-2) HK2.out).mono ?_; rintro e wf ⟨rfl, hb⟩; replace hb : Below we.heap.size we wf := (by first | exact hb | exact bel_of_drew hb); have hs_wf : we.heap.size ≤ wf.heap.size := hb.size; replace k_U_0 : wf.cell? ⟨wa.heap.size, 0, none⟩ = some (.bool (decide ((pu).num < 0))) := (hb.cell (p := ⟨wa.heap.size, 0, none⟩) hl_U).trans k_U_0; replace k_U_1 : wf.cell? ⟨wa.heap.size, 1, none⟩ = some (.slice ru (nlen (pu).num.natAbs) cu) := (hb.cell (p := ⟨wa.heap.size, 1, none⟩) hl_U).trans k_U_1; replace k_U_2 : wf.cell? ⟨wa.heap.size, 2, none⟩ = some (.slice ru2 (nlen (pu).den) cu2) := (hb.cell (p := ⟨wa.heap.size, 2, none⟩) hl_U).trans k_U_2; replace f_U : ∀ o, wf.frozen? ⟨wa.heap.size, o, none⟩ = false := fun o => (hb.frozen (p := ⟨wa.heap.size, o, none⟩) hl_U).trans (f_U o); replace HX_U := Lib.hid (HX_U.out.below hb); replace k_V_0 : wf.cell? ⟨wa.heap.size + 1, 0, none⟩ = some (.bool (decide ((pv).num < 0))) := (hb.cell (p := ⟨wa.heap.size + 1, 0, none⟩) hl_V).trans k_V_0; replace k_V_1 : wf.cell? ⟨wa.heap.size + 1, 1, none⟩ = some (.slice rv (nlen (pv).num.natAbs) cv) := (hb.cell (p := ⟨wa.heap.size + 1, 1, none⟩) hl_V).trans k_V_1; replace k_V_2 : wf.cell? ⟨wa.heap.size + 1, 2, none⟩ = some (.slice rv2 (nlen (pv).den) cv2) := (hb.cell (p := ⟨wa.heap.size + 1, 2, none⟩) hl_V).trans k_V_2; replace f_V : ∀ o, wf.frozen? ⟨wa.heap.size + 1, o, none⟩ = false := fun o => (hb.frozen (p := ⟨wa.heap.size + 1, o, none⟩) hl_V).trans (f_V o); replace HX_V := Lib.hid (HX_V.out.below hb); replace k_P_0 : wf.cell? ⟨wb.heap.size, 0, none⟩ = some (.bool (decide ((pp).num < 0))) := (hb.cell (p := ⟨wb.heap.size, 0, none⟩) hl_P).trans k_P_0; replace k_P_1 : wf.cell? ⟨wb.heap.size, 1, none⟩ = some (.slice rp (nlen (pp).num.natAbs) cp) := (hb.cell (p := ⟨wb.heap.size, 1, none⟩) hl_P).trans k_P_1; replace k_P_2 : wf.cell? ⟨wb.heap.size, 2, none⟩ = some (.slice rp2 (nlen (pp).den) cp2) := (hb.cell (p := ⟨wb.heap.size, 2, none⟩) hl_P).trans k_P_2; replace f_P : ∀ o, wf.frozen? ⟨wb.heap.size, o, none⟩ = false := fun o => (hb.frozen (p := ⟨wb.heap.size, o, none⟩) hl_P).trans (f_P o); replace HX_P := Lib.hid (HX_P.out.below hb); replace k_Z_0 : wf.cell? ⟨wc.heap.size, 0, none⟩ = some (.bool (decide ((pz).num < 0))) := (hb.cell (p := ⟨wc.heap.size, 0, none⟩) hl_Z).trans k_Z_0; replace k_Z_1 : wf.cell? ⟨wc.heap.size, 1, none⟩ = some (.slice rz (nlen (pz).num.natAbs) cz) := (hb.cell (p := ⟨wc.heap.size, 1, none⟩) hl_Z).trans k_Z_1; replace k_Z_2 : wf.cell? ⟨wc.heap.size, 2, none⟩ = some (.slice rz2 (nlen (pz).den) cz2) := (hb.cell (p := ⟨wc.heap.size, 2, none⟩) hl_Z).trans k_Z_2; replace f_Z : ∀ o, wf.frozen? ⟨wc.heap.size, o, none⟩ = false := fun o => (hb.frozen (p := ⟨wc.heap.size, o, none⟩) hl_Z).trans (f_Z o); replace HX_Z := Lib.hid (HX_Z.out.below hb); replace HU1 := Lib.hid (HU1.out.below hb); replace HU2 := Lib.hid (HU2.out.below hb); replace HV1 := Lib.hid (HV1.out.below hb); replace HV2 := Lib.hid (HV2.out.below hb); replace HP1 := Lib.hid (HP1.out.below hb); replace HP2 := Lib.hid (HP2.out.below hb); replace HZ1 := Lib.hid (HZ1.out.below hb); replace HZ2 := Lib.hid (HZ2.out.below hb); replace HB := Lib.hid (HB.out.trans (hb.mono hs0)); replace hN : N ≤ wf.heap.size := Nat.le_trans hN hb.size; replace hs0 : w.heap.size ≤ wf.heap.size := Nat.le_trans hs0 hb.size; replace hl_U : wa.heap.size < wf.heap.size := Nat.lt_of_lt_of_le hl_U hb.size; replace hl_V : wa.heap.size + 1 < wf.heap.size := Nat.lt_of_lt_of_le hl_V hb.size; replace hl_P : wb.heap.size < wf.heap.size := Nat.lt_of_lt_of_le hl_P hb.size; replace hl_Z : wc.heap.size < wf.heap.size := Nat.lt_of_lt_of_le hl_Z hb.size; replace HT := Lib.hid (HT.out.below hb); replace HTO := Lib.hid (HTO.out.below hb); clear hb; skip))
  go_wp2_with fail
  refine calls_name fun W5 hW => ?_
  have HL_W5 := Lib.hid (show Below wf.heap.size wf W5 by rw [← hW]; exact BlA)
  have hs_W5 : wf.heap.size ≤ W5.heap.size := by rw [← hW]; (first | omega | (simp; done) | (simp; omega))
  have HK_W5 := Lib.hid (show Kp N wf W5 by rw [← hW]; exact KpA)
  replace k_U_0 : W5.cell? ⟨wa.heap.size, 0, none⟩ = some (.bool (decide ((pu).num < 0))) := (HL_W5.out.cell (p := ⟨wa.heap.size, 0, none⟩) hl_U).trans k_U_0
  replace k_U_1 : W5.cell? ⟨wa.heap.size, 1, none⟩ = some (.slice ru (nlen (pu).num.natAbs) cu) := (HL_W5.out.cell (p := ⟨wa.heap.size, 1, none⟩) hl_U).trans k_U_1
  replace k_U_2 : W5.cell? ⟨wa.heap.size, 2, none⟩ = some (.slice ru2 (nlen (pu).den) cu2) := (HL_W5.out.cell (p := ⟨wa.heap.size, 2, none⟩) hl_U).trans k_U_2
  replace f_U : ∀ o, W5.frozen? ⟨wa.heap.size, o, none⟩ = false := fun o => (HL_W5.out.frozen (p := ⟨wa.heap.size, o, none⟩) hl_U).trans (f_U o)
  replace HX_U := Lib.hid (show Bn W5 (wa.heap.size) by rw [← hW]; exact KpA)
  replace k_V_0 : W5.cell? ⟨wa.heap.size + 1, 0, none⟩ = some (.bool (decide ((pv).num < 0))) := (HL_W5.out.cell (p := ⟨wa.heap.size + 1, 0, none⟩) hl_V).trans k_V_0
  replace k_V_1 : W5.cell? ⟨wa.heap.size + 1, 1, none⟩ = some (.slice rv (nlen (pv).num.natAbs) cv) := (HL_W5.out.cell (p := ⟨wa.heap.size + 1, 1, none⟩) hl_V).trans k_V_1
  replace k_V_2 : W5.cell? ⟨wa.heap.size + 1, 2, none⟩ = some (.slice rv2 (nlen (pv).den) cv2) := (HL_W5.out.cell (p := ⟨wa.heap.size + 1, 2, none⟩) hl_V).trans k_V_2
  replace f_V : ∀ o, W5.frozen? ⟨wa.heap.size + 1, o, none⟩ = false := fun o => (HL_W5.out.frozen (p := ⟨wa.heap.size + 1, o, none⟩) hl_V).trans (f_V o)
  replace HX_V := Lib.hid (show Bn W5 (wa.heap.size + 1) by rw [← hW]; exact KpA)
  replace k_P_0 : W5.cell? ⟨wb.heap.size, 0, none⟩ = some (.bool (decide ((pp).num < 0))) := (HL_W5.out.cell (p := ⟨wb.heap.size, 0, none⟩) hl_P).trans k_P_0
  replace k_P_1 : W5.cell? ⟨wb.heap.size, 1, none⟩ = some (.slice rp (nlen (pp).num.natAbs) cp) := (HL_W5.out.cell (p := ⟨wb.heap.size, 1, none⟩) hl_P).trans k_P_1
  replace k_P_2 : W5.cell? ⟨wb.heap.size, 2, none⟩ = some (.slice rp2 (nlen (pp).den) cp2) := (HL_W5.out.cell (p := ⟨wb.heap.size, 2, none⟩) hl_P).trans k_P_2
  replace f_P : ∀ o, W5.frozen? ⟨wb.heap.size, o, none⟩ = false := fun o => (HL_W5.out.frozen (p := ⟨wb.heap.size, o, none⟩) hl_P).trans (f_P o)
  replace HX_P := Lib.hid (show Bn W5 (wb.heap.size) by rw [← hW]; exact KpA)
  replace k_Z_0 : W5.cell? ⟨wc.heap.size, 0, none⟩ = some (.bool (decide ((pz).num < 0))) := (HL_W5.out.cell (p := ⟨wc.heap.size, 0, none⟩) hl_Z).trans k_Z_0
  replace k_Z_1 : W5.cell? ⟨wc.heap.size, 1, none⟩ = some (.slice rz (nlen (pz).num.natAbs) cz) := (HL_W5.out.cell (p := ⟨wc.heap.size, 1, none⟩) hl_Z).trans k_Z_1
  replace k_Z_2 : W5.cell? ⟨wc.heap.size, 2, none⟩ = some (.slice rz2 (nlen (pz).den) cz2) := (HL_W5.out.cell (p := ⟨wc.heap.size, 2, none⟩) hl_Z).trans k_Z_2
  replace f_Z : ∀ o, W5.frozen? ⟨wc.heap.size, o, none⟩ = false := fun o => (HL_W5.out.frozen (p := ⟨wc.heap.size, o, none⟩) hl_Z).trans (f_Z o)
  replace HX_Z := Lib.hid (show Bn W5 (wc.heap.size) by rw [← hW]; exact KpA)
  replace HU1 := Lib.hid (HU1.out.keep HK_W5.out)
  replace HU2 := Lib.hid (HU2.out.keep HK_W5.out)
  replace HV1 := Lib.hid (HV1.out.keep HK_W5.out)
  replace HV2 := Lib.hid (HV2.out.keep HK_W5.out)
  replace HP1 := Lib.hid (HP1.out.keep HK_W5.out)
  replace HP2 := Lib.hid (HP2.out.keep HK_W5.out)
  replace HZ1 := Lib.hid (HZ1.out.keep HK_W5.out)
  replace HZ2 := Lib.hid (HZ2.out.keep HK_W5.out)
  replace HB := Lib.hid (show Below w.heap.size w W5 by rw [← hW]; exact BlA)
  replace hN : N ≤ W5.heap.size := by rw [← hW]; (first | omega | (simp; done) | (simp; omega))
  replace hs0 : w.heap.size ≤ W5.heap.size := by rw [← hW]; (first | omega | (simp; done) | (simp; omega))
  replace hl_U : wa.heap.size < W5.heap.size := by rw [← hW]; (first | omega | (simp; done) | (simp; omega))
  replace hl_V : wa.heap.size + 1 < W5.heap.size := by rw [← hW]; (first | omega | (simp; done) | (simp; omega))
  replace hl_P : wb.heap.size < W5.heap.size := by rw [← hW]; (first | omega | (simp; done) | (simp; omega))
  replace hl_Z : wc.heap.size < W5.heap.size := by rw [← hW]; (first | omega | (simp; done) | (simp; omega))
  replace HT := Lib.hid (HT.out.below HL_W5.out)
  replace HTO := Lib.hid (HTO.out.below HL_W5.out)
  clear HL_W5
  clear hW HK_W5
  refine (purify_nil (N := N) _ hN _ _ _ _ _ _ _ 1 pz (Rt.of_norm HZ1.out HZ2.out 1 Hzz.out) (by decide) HZP.out).mono ?_
  rintro e wg ⟨bf, rfl, hb⟩
  have hs_wg : W5.heap.size ≤ wg.heap.size := hb.size
  replace k_U_0 : wg.cell? ⟨wa.heap.size, 0, none⟩ = some (.bool (decide ((pu).num < 0))) := (hb.cell (p := ⟨wa.heap.size, 0, none⟩) hl_U).trans k_U_0
  replace k_U_1 : wg.cell? ⟨wa.heap.size, 1, none⟩ = some (.slice ru (nlen (pu).num.natAbs) cu) := (hb.cell (p := ⟨wa.heap.size, 1, none⟩) hl_U).trans k_U_1
  replace k_U_2 : wg.cell? ⟨wa.heap.size, 2, none⟩ = some (.slice ru2 (nlen (pu).den) cu2) := (hb.cell (p := ⟨wa.heap.size, 2, none⟩) hl_U).trans k_U_2
  replace f_U : ∀ o, wg.frozen? ⟨wa.heap.size, o, none⟩ = false := fun o => (hb.frozen (p := ⟨wa.heap.size, o, none⟩) hl_U).trans (f_U o)
  replace HX_U := Lib.hid (HX_U.out.below hb)
  replace k_V_0 : wg.cell? ⟨wa.heap.size + 1, 0, none⟩ = some (.bool (decide ((pv).num < 0))) := (hb.cell (p := ⟨wa.heap.size + 1, 0, none⟩) hl_V).trans k_V_0
  replace k_V_1 : wg.cell? ⟨wa.heap.size + 1, 1, none⟩ = some (.slice rv (nlen (pv).num.natAbs) cv) := (hb.cell (p := ⟨wa.heap.size + 1, 1, none⟩) hl_V).trans k_V_1
  replace k_V_2 : wg.cell? ⟨wa.heap.size + 1, 2, none⟩ = some (.slice rv2 (nlen (pv).den) cv2) := (hb.cell (p := ⟨wa.heap.size + 1, 2, none⟩) hl_V).trans k_V_2
  replace f_V : ∀ o, wg.frozen? ⟨wa.heap.size + 1, o, none⟩ = false := fun o => (hb.frozen (p := ⟨wa.heap.size + 1, o, none⟩) hl_V).trans (f_V o)
  replace HX_V := Lib.hid (HX_V.out.below hb)
  replace k_P_0 : wg.cell? ⟨wb.heap.size, 0, none⟩ = some (.bool (decide ((pp).num < 0))) := (hb.cell (p := ⟨wb.heap.size, 0, none⟩) hl_P).trans k_P_0
  replace k_P_1 : wg.cell? ⟨wb.heap.size, 1, none⟩ = some (.slice rp (nlen (pp).num.natAbs) cp) := (hb.cell (p := ⟨wb.heap.size, 1, none⟩) hl_P).trans k_P_1
  replace k_P_2 : wg.cell? ⟨wb.heap.size, 2, none⟩ = some (.slice rp2 (nlen (pp).den) cp2) := (hb.cell (p := ⟨wb.heap.size, 2, none⟩) hl_P).trans k_P_2
  replace f_P : ∀ o, wg.frozen? ⟨wb.heap.size, o, none⟩ = false := fun o => (hb.frozen (p := ⟨wb.heap.size, o, none⟩) hl_P).trans (f_P o)
  replace HX_P := Lib.hid (HX_P.out.below hb)
  replace k_Z_0 : wg.cell? ⟨wc.heap.size, 0, none⟩ = some (.bool (decide ((pz).num < 0))) := (hb.cell (p := ⟨wc.heap.size, 0, none⟩) hl_Z).trans k_Z_0
  replace k_Z_1 : wg.cell? ⟨wc.heap.size, 1, none⟩ = some (.slice rz (nlen (pz).num.natAbs) cz) := (hb.cell (p := ⟨wc.heap.size, 1, none⟩) hl_Z).trans k_Z_1
  replace k_Z_2 : wg.cell? ⟨wc.heap.size, 2, none⟩ = some (.slice rz2 (nlen (pz).den) cz2) := (hb.cell (p := ⟨wc.heap.size, 2, none⟩) hl_Z).trans k_Z_2
  replace f_Z : ∀ o, wg.frozen? ⟨wc.heap.size, o, none⟩ = false := fun o => (hb.frozen (p := ⟨wc.heap.size, o, none⟩) hl_Z).trans (f_Z o)
  replace HX_Z := Lib.hid (HX_Z.out.below hb)
  replace HU1 := Lib.hid (HU1.out.below hb)
  replace HU2 := Lib.hid (HU2.out.below hb)
  replace HV1 := Lib.hid (HV1.out.below hb)
  replace HV2 := Lib.hid (HV2.out.below hb)
  replace HP1 := Lib.hid (HP1.out.below hb)
  replace HP2 := Lib.hid (HP2.out.below hb)
  replace HZ1 := Lib.hid (HZ1.out.below hb)
  replace HZ2 := Lib.hid (HZ2.out.below hb)
  replace HB := Lib.hid (HB.out.trans (hb.mono hs0))
  replace hN : N ≤ wg.heap.size := Nat.le_trans hN hb.size
  replace hs0 : w.heap.size ≤ wg.heap.size := Nat.le_trans hs0 hb.size
  replace hl_U : wa.heap.size < wg.heap.size := Nat.lt_of_lt_of_le hl_U hb.size
  replace hl_V : wa.heap.size + 1 < wg.heap.size := Nat.lt_of_lt_of_le hl_V hb.size
  replace hl_P : wb.heap.size < wg.heap.size := Nat.lt_of_lt_of_le hl_P hb.size
  replace hl_Z : wc.heap.size < wg.heap.size := Nat.lt_of_lt_of_le hl_Z hb.size
  replace HT := Lib.hid (HT.out.below hb)
  replace HTO := Lib.hid (HTO.out.below hb)
  clear hb
  clear hl_Z f_Z HX_Z k_Z_0 k_Z_1 k_Z_2
  clear HZ1
  clear HZ2
  clear HTO
  go_wp2_with fail
  refine calls_name fun WPU hW => ?_
  have HL_WPU := Lib.hid (show Below wg.heap.size wg WPU by rw [← hW]; exact BlA)
  have hs_WPU : wg.heap.size ≤ WPU.heap.size := by rw [← hW]; (first | omega | (simp; done) | (simp; omega))
  have HK_WPU := Lib.hid (show Kp N wg WPU by rw [← hW]; exact KpA)
  replace k_U_0 : WPU.cell? ⟨wa.heap.size, 0, none⟩ = some (.bool (decide ((pu).num < 0))) := (HL_WPU.out.cell (p := ⟨wa.heap.size, 0, none⟩) hl_U).trans k_U_0
  replace k_U_1 : WPU.cell? ⟨wa.heap.size, 1, none⟩ = some (.slice ru (nlen (pu).num.natAbs) cu) := (HL_WPU.out.cell (p := ⟨wa.heap.size, 1, none⟩) hl_U).trans k_U_1
  replace k_U_2 : WPU.cell? ⟨wa.heap.size, 2, none⟩ = some (.slice ru2 (nlen (pu).den) cu2) := (HL_WPU.out.cell (p := ⟨wa.heap.size, 2, none⟩) hl_U).trans k_U_2
  replace f_U : ∀ o, WPU.frozen? ⟨wa.heap.size, o, none⟩ = false := fun o => (HL_WPU.out.frozen (p := ⟨wa.heap.size, o, none⟩) hl_U).trans (f_U o)
  replace HX_U := Lib.hid (show Bn WPU (wa.heap.size) by rw [← hW]; exact KpA)
  replace k_V_0 : WPU.cell? ⟨wa.heap.size + 1, 0, none⟩ = some (.bool (decide ((pv).num < 0))) := (HL_WPU.out.cell (p := ⟨wa.heap.size + 1, 0, none⟩) hl_V).trans k_V_0
  replace k_V_1 : WPU.cell? ⟨wa.heap.size + 1, 1, none⟩ = some (.slice rv (nlen (pv).num.natAbs) cv) := (HL_WPU.out.cell (p := ⟨wa.heap.size + 1, 1, none⟩) hl_V).trans k_V_1
  replace k_V_2 : WPU.cell? ⟨wa.heap.size + 1, 2, none⟩ = some (.slice rv2 (nlen (pv).den) cv2) := (HL_WPU.out.cell (p := ⟨wa.heap.size + 1, 2, none⟩) hl_V).trans k_V_2
  replace f_V : ∀ o, WPU.frozen? ⟨wa.heap.size + 1, o, none⟩ = false := fun o => (HL_WPU.out.frozen (p := ⟨wa.heap.size + 1, o, none⟩) hl_V).trans (f_V o)
  replace HX_V := Lib.hid (show Bn WPU (wa.heap.size + 1) by rw [← hW]; exact KpA)
  replace k_P_0 : WPU.cell? ⟨wb.heap.size, 0, none⟩ = some (.bool (decide ((pp).num < 0))) := (HL_WPU.out.cell (p := ⟨wb.heap.size, 0, none⟩) hl_P).trans k_P_0
  replace k_P_1 : WPU.cell? ⟨wb.heap.size, 1, none⟩ = some (.slice rp (nlen (pp).num.natAbs) cp) := (HL_WPU.out.cell (p := ⟨wb.heap.size, 1, none⟩) hl_P).trans k_P_1
  replace k_P_2 : WPU.cell? ⟨wb.heap.size, 2, none⟩ = some (.slice rp2 (nlen (pp).den) cp2) := (HL_WPU.out.cell (p := ⟨wb.heap.size, 2, none⟩) hl_P).trans k_P_2
  replace f_P : ∀ o, WPU.frozen? ⟨wb.heap.size, o, none⟩ = false := fun o => (HL_WPU.out.frozen (p := ⟨wb.heap.size, o, none⟩) hl_P).trans (f_P o)
  replace HX_P := Lib.hid (show Bn WPU (wb.heap.size) by rw [← hW]; exact KpA)
  replace HU1 := Lib.hid (HU1.out.keep HK_WPU.out)
  replace HU2 := Lib.hid (HU2.out.keep HK_WPU.out)
  replace HV1 := Lib.hid (HV1.out.keep HK_WPU.out)
  replace HV2 := Lib.hid (HV2.out.keep HK_WPU.out)
  replace HP1 := Lib.hid (HP1.out.keep HK_WPU.out)
  replace HP2 := Lib.hid (HP2.out.keep HK_WPU.out)
  replace HB := Lib.hid (show Below w.heap.size w WPU by rw [← hW]; exact BlA)
  replace hN : N ≤ WPU.heap.size := by rw [← hW]; (first | omega | (simp; done) | (simp; omega))
  replace hs0 : w.heap.size ≤ WPU.heap.size := by rw [← hW]; (first | omega | (simp; done) | (simp; omega))
  replace hl_U : wa.heap.size < WPU.heap.size := by rw [← hW]; (first | omega | (simp; done) | (simp; omega))
  replace hl_V : wa.heap.size + 1 < WPU.heap.size := by rw [← hW]; (first | omega | (simp; done) | (simp; omega))
  replace hl_P : wb.heap.size < WPU.heap.size := by rw [← hW]; (first | omega | (simp; done) | (simp; omega))
  replace HT := Lib.hid (HT.out.below HL_WPU.out)
  clear HL_WPU
  clear hW HK_WPU
  refine (print_is (N := N) _ _ _ _ _ _ _ 1 pu _ hN (Rt.of_norm HU1.out HU2.out 1 Hzu.out) (by decide) HT.out _ (by rw [Htu.out]; exact txt_97)).mono ?_
  rintro e wpU ⟨rfl, hb⟩
  have hs_wpU : WPU.heap.size ≤ wpU.heap.size := hb.size
  replace k_U_0 : wpU.cell? ⟨wa.heap.size, 0, none⟩ = some (.bool (decide ((pu).num < 0))) := (hb.cell (p := ⟨wa.heap.size, 0, none⟩) hl_U).trans k_U_0
  replace k_U_1 : wpU.cell? ⟨wa.heap.size, 1, none⟩ = some (.slice ru (nlen (pu).num.natAbs) cu) := (hb.cell (p := ⟨wa.heap.size, 1, none⟩) hl_U).trans k_U_1
  replace k_U_2 : wpU.cell? ⟨wa.heap.size, 2, none⟩ = some (.slice ru2 (nlen (pu).den) cu2) := (hb.cell (p := ⟨wa.heap.size, 2, none⟩) hl_U).trans k_U_2
  replace f_U : ∀ o, wpU.frozen? ⟨wa.heap.size, o, none⟩ = false := fun o => (hb.frozen (p := ⟨wa.heap.size, o, none⟩) hl_U).trans (f_U o)
  replace HX_U := Lib.hid (HX_U.out.below hb)
  replace k_V_0 : wpU.cell? ⟨wa.heap.size + 1, 0, none⟩ = some (.bool (decide ((pv).num < 0))) := (hb.cell (p := ⟨wa.heap.size + 1, 0, none⟩) hl_V).trans k_V_0
  replace k_V_1 : wpU.cell? ⟨wa.heap.size + 1, 1, none⟩ = some (.slice rv (nlen (pv).num.natAbs) cv) := (hb.cell (p := ⟨wa.heap.size + 1, 1, none⟩) hl_V).trans k_V_1
  replace k_V_2 : wpU.cell? ⟨wa.heap.size + 1, 2, none⟩ = some (.slice rv2 (nlen (pv).den) cv2) := (hb.cell (p := ⟨wa.heap.size + 1, 2, none⟩) hl_V).trans k_V_2
  replace f_V : ∀ o, wpU.frozen? ⟨wa.heap.size + 1, o, none⟩ = false := fun o => (hb.frozen (p := ⟨wa.heap.size + 1, o, none⟩) hl_V).trans (f_V o)
  replace HX_V := Lib.hid (HX_V.out.below hb)
  replace k_P_0 : wpU.cell? ⟨wb.heap.size, 0, none⟩ = some (.bool (decide ((pp).num < 0))) := (hb.cell (p := ⟨wb.heap.size, 0, none⟩) hl_P).trans k_P_0
  replace k_P_1 : wpU.cell? ⟨wb.heap.size, 1, none⟩ = some (.slice rp (nlen (pp).num.natAbs) cp) := (hb.cell (p := ⟨wb.heap.size, 1, none⟩) hl_P).trans k_P_1
  replace k_P_2 : wpU.cell? ⟨wb.heap.size, 2, none⟩ = some (.slice rp2 (nlen (pp).den) cp2) := (hb.cell (p := ⟨wb.heap.size, 2, none⟩) hl_P).trans k_P_2
  replace f_P : ∀ o, wpU.frozen? ⟨wb.heap.size, o, none⟩ = false := fun o => (hb.frozen (p := ⟨wb.heap.size, o, none⟩) hl_P).trans (f_P o)
  replace HX_P := Lib.hid (HX_P.out.below hb)
  replace HU1 := Lib.hid (HU1.out.below hb)
  replace HU2 := Lib.hid (HU2.out.below hb)
  replace HV1 := Lib.hid (HV1.out.below hb)
  replace HV2 := Lib.hid (HV2.out.below hb)
  replace HP1 := Lib.hid (HP1.out.below hb)
  replace HP2 := Lib.hid (HP2.out.below hb)
  replace HB := Lib.hid (HB.out.trans (hb.mono hs0))
  replace hN : N ≤ wpU.heap.size := Nat.le_trans hN hb.size
  replace hs0 : w.heap.size ≤ wpU.heap.size := Nat.le_trans hs0 hb.size
  replace hl_U : wa.heap.size < wpU.heap.size := Nat.lt_of_lt_of_le hl_U hb.size
  replace hl_V : wa.heap.size + 1 < wpU.heap.size := Nat.lt_of_lt_of_le hl_V hb.size
  replace hl_P : wb.heap.size < wpU.heap.size := Nat.lt_of_lt_of_le hl_P hb.size
  replace HT := Lib.hid (HT.out.below hb)
  clear hb
  clear hl_U f_U HX_U k_U_0 k_U_1 k_U_2
  clear HU1
  clear HU2
  go_wp2_with fail
  refine calls_name fun WPV hW => ?_
  have HL_WPV := Lib.hid (show Below wpU.heap.size wpU WPV by rw [← hW]; exact BlA)
  have hs_WPV : wpU.heap.size ≤ WPV.heap.size := by rw [← hW]; (first | omega | (simp; done) | (simp; omega))
  have HK_WPV := Lib.hid (show Kp N wpU WPV by rw [← hW]; exact KpA)
  replace k_V_0 : WPV.cell? ⟨wa.heap.size + 1, 0, none⟩ = some (.bool (decide ((pv).num < 0))) := (HL_WPV.out.cell (p := ⟨wa.heap.size + 1, 0, none⟩) hl_V).trans k_V_0
  replace k_V_1 : WPV.cell? ⟨wa.heap.size + 1, 1, none⟩ = some (.slice rv (nlen (pv).num.natAbs) cv) := (HL_WPV.out.cell (p := ⟨wa.heap.size + 1, 1, none⟩) hl_V).trans k_V_1
  replace k_V_2 : WPV.cell? ⟨wa.heap.size + 1, 2, none⟩ = some (.slice rv2 (nlen (pv).den) cv2) := (HL_WPV.out.cell (p := ⟨wa.heap.size + 1, 2, none⟩) hl_V).trans k_V_2
  replace f_V : ∀ o, WPV.frozen? ⟨wa.heap.size + 1, o, none⟩ = false := fun o => (HL_WPV.out.frozen (p := ⟨wa.heap.size + 1, o, none⟩) hl_V).trans (f_V o)
  replace HX_V := Lib.hid (show Bn WPV (wa.heap.size + 1) by rw [← hW]; exact KpA)
  replace k_P_0 : WPV.cell? ⟨wb.heap.size, 0, none⟩ = some (.bool (decide ((pp).num < 0))) := (HL_WPV.out.cell (p := ⟨wb.heap.size, 0, none⟩) hl_P).trans k_P_0
  replace k_P_1 : WPV.cell? ⟨wb.heap.size, 1, none⟩ = some (.slice rp (nlen (pp).num.natAbs) cp) := (HL_WPV.out.cell (p := ⟨wb.heap.size, 1, none⟩) hl_P).trans k_P_1
  replace k_P_2 : WPV.cell? ⟨wb.heap.size, 2, none⟩ = some (.slice rp2 (nlen (pp).den) cp2) := (HL_WPV.out.cell (p := ⟨wb.heap.size, 2, none⟩) hl_P).trans k_P_2
  replace f_P : ∀ o, WPV.frozen? ⟨wb.heap.size, o, none⟩ = false := fun o => (HL_WPV.out.frozen (p := ⟨wb.heap.size, o, none⟩) hl_P).trans (f_P o)
  replace HX_P := Lib.hid (show Bn WPV (wb.heap.size) by rw [← hW]; exact KpA)
  replace HV1 := Lib.hid (HV1.out.keep HK_WPV.out)
  replace HV2 := Lib.hid (HV2.out.keep HK_WPV.out)
  replace HP1 := Lib.hid (HP1.out.keep HK_WPV.out)
  replace HP2 := Lib.hid (HP2.out.keep HK_WPV.out)
  replace HB := Lib.hid (show Below w.heap.size w WPV by rw [← hW]; exact BlA)
  replace hN : N ≤ WPV.heap.size := by rw [← hW]; (first | omega | (simp; done) | (simp; omega))
  replace hs0 : w.heap.size ≤ WPV.heap.size := by rw [← hW]; (first | omega | (simp; done) | (simp; omega))
  replace hl_V : wa.heap.size + 1 < WPV.heap.size := by rw [← hW]; (first | omega | (simp; done) | (simp; omega))
  replace hl_P : wb.heap.size < WPV.heap.size := by rw [← hW]; (first | omega | (simp; done) | (simp; omega))
  replace HT := Lib.hid (HT.out.below HL_WPV.out)
  clear HL_WPV
  clear hW HK_WPV
  refine (print_is (N := N) _ _ _ _ _ _ _ 1 pv _ hN (Rt.of_norm HV1.out HV2.out 1 Hzv.out) (by decide) HT.out _ (by rw [Htv.out]; exact txt_37)).mono ?_
  rintro e wpV ⟨rfl, hb⟩
  have hs_wpV : WPV.heap.size ≤ wpV.heap.size := hb.size
  replace k_V_0 : wpV.cell? ⟨wa.heap.size + 1, 0, none⟩ = some (.bool (decide ((pv).num < 0))) := (hb.cell (p := ⟨wa.heap.size + 1, 0, none⟩) hl_V).trans k_V_0
  replace k_V_1 : wpV.cell? ⟨wa.heap.size + 1, 1, none⟩ = some (.slice rv (nlen (pv).num.natAbs) cv) := (hb.cell (p := ⟨wa.heap.size + 1, 1, none⟩) hl_V).trans k_V_1
  replace k_V_2 : wpV.cell? ⟨wa.heap.size + 1, 2, none⟩ = some (.slice rv2 (nlen (pv).den) cv2) := (hb.cell (p := ⟨wa.heap.size + 1, 2, none⟩) hl_V).trans k_V_2
  replace f_V : ∀ o, wpV.frozen? ⟨wa.heap.size + 1, o, none⟩ = false := fun o => (hb.frozen (p := ⟨wa.heap.size + 1, o, none⟩) hl_V).trans (f_V o)
  replace HX_V := Lib.hid (HX_V.out.below hb)
  replace k_P_0 : wpV.cell? ⟨wb.heap.size, 0, none⟩ = some (.bool (decide ((pp).num < 0))) := (hb.cell (p := ⟨wb.heap.size, 0, none⟩) hl_P).trans k_P_0
  replace k_P_1 : wpV.cell? ⟨wb.heap.size, 1, none⟩ = some (.slice rp (nlen (pp).num.natAbs) cp) := (hb.cell (p := ⟨wb.heap.size, 1, none⟩) hl_P).trans k_P_1
  replace k_P_2 : wpV.cell? ⟨wb.heap.size, 2, none⟩ = some (.slice rp2 (nlen (pp).den) cp2) := (hb.cell (p := ⟨wb.heap.size, 2, none⟩) hl_P).trans k_P_2
  replace f_P : ∀ o, wpV.frozen? ⟨wb.heap.size, o, none⟩ = false := fun o => (hb.frozen (p := ⟨wb.heap.size, o, none⟩) hl_P).trans (f_P o)
  replace HX_P := Lib.hid (HX_P.out.below hb)
  replace HV1 := Lib.hid (HV1.out.below hb)
  replace HV2 := Lib.hid (HV2.out.below hb)
  replace HP1 := Lib.hid (HP1.out.below hb)
  replace HP2 := Lib.hid (HP2.out.below hb)
  replace HB := Lib.hid (HB.out.trans (hb.mono hs0))
  replace hN : N ≤ wpV.heap.size := Nat.le_trans hN hb.size
  replace hs0 : w.heap.size ≤ wpV.heap.size := Nat.le_trans hs0 hb.size
  replace hl_V : wa.heap.size + 1 < wpV.heap.size := Nat.lt_of_lt_of_le hl_V hb.size
  replace hl_P : wb.heap.size < wpV.heap.size := Nat.lt_of_lt_of_le hl_P hb.size
  replace HT := Lib.hid (HT.out.below hb)
  clear hb
  clear hl_V f_V HX_V k_V_0 k_V_1 k_V_2
  clear HV1
  clear HV2
  go_wp2_with fail
  refine calls_name fun WPP hW => ?_
  have HL_WPP := Lib.hid (show Below wpV.heap.size wpV WPP by rw [← hW]; exact BlA)
  have hs_WPP : wpV.heap.size ≤ WPP.heap.size := by rw [← hW]; (first | omega | (simp; done) | (simp; omega))
  have HK_WPP := Lib.hid (show Kp N wpV WPP by rw [← hW]; exact KpA)
  replace k_P_0 : WPP.cell? ⟨wb.heap.size, 0, none⟩ = some (.bool (decide ((pp).num < 0))) := (HL_WPP.out.cell (p := ⟨wb.heap.size, 0, none⟩) hl_P).trans k_P_0
  replace k_P_1 : WPP.cell? ⟨wb.heap.size, 1, none⟩ = some (.slice rp (nlen (pp).num.natAbs) cp) := (HL_WPP.out.cell (p := ⟨wb.heap.size, 1, none⟩) hl_P).trans k_P_1
  replace k_P_2 : WPP.cell? ⟨wb.heap.size, 2, none⟩ = some (.slice rp2 (nlen (pp).den) cp2) := (HL_WPP.out.cell (p := ⟨wb.heap.size, 2, none⟩) hl_P).trans k_P_2
  replace f_P : ∀ o, WPP.frozen? ⟨wb.heap.size, o, none⟩ = false := fun o => (HL_WPP.out.frozen (p := ⟨wb.heap.size, o, none⟩) hl_P).trans (f_P o)
  replace HX_P := Lib.hid (show Bn WPP (wb.heap.size) by rw [← hW]; exact KpA)
  replace HP1 := Lib.hid (HP1.out.keep HK_WPP.out)
  replace HP2 := Lib.hid (HP2.out.keep HK_WPP.out)
  replace HB := Lib.hid (show Below w.heap.size w WPP by rw [← hW]; exact BlA)
  replace hN : N ≤ WPP.heap.size := by rw [← hW]; (first | omega | (simp; done) | (simp; omega))
  replace hs0 : w.heap.size ≤ WPP.heap.size := by rw [← hW]; (first | omega | (simp; done) | (simp; omega))
  replace hl_P : wb.heap.size < WPP.heap.size := by rw [← hW]; (first | omega | (simp; done) | (simp; omega))
  replace HT := Lib.hid (HT.out.below HL_WPP.out)
  clear HL_WPP
  clear hW HK_WPP
  refine (print_is (N := N) _ _ _ _ _ _ _ 1 pp _ hN (Rt.of_norm HP1.out HP2.out 1 Hzp.out) (by decide) HT.out _ (by rw [Htp.out]; exact txt_1126)).mono ?_
  rintro e wpP ⟨rfl, hb⟩
  have hs_wpP : WPP.heap.size ≤ wpP.heap.size := hb.size
  replace k_P_0 : wpP.cell? ⟨wb.heap.size, 0, none⟩ = some (.bool (decide ((pp).num < 0))) := (hb.cell (p := ⟨wb.heap.size, 0, none⟩) hl_P).trans k_P_0
  replace k_P_1 : wpP.cell? ⟨wb.heap.size, 1, none⟩ = some (.slice rp (nlen (pp).num.natAbs) cp) := (hb.cell (p := ⟨wb.heap.size, 1, none⟩) hl_P).trans k_P_1
  replace k_P_2 : wpP.cell? ⟨wb.heap.size, 2, none⟩ = some (.slice rp2 (nlen (pp).den) cp2) := (hb.cell (p := ⟨wb.heap.size, 2, none⟩) hl_P).trans k_P_2
  replace f_P : ∀ o, wpP.frozen? ⟨wb.heap.size, o, none⟩ = false := fun o => (hb.frozen (p := ⟨wb.heap.size, o, none⟩) hl_P).trans (f_P o)
  replace HX_P := Lib.hid (HX_P.out.below hb)
  replace HP1 := Lib.hid (HP1.out.below hb)
  replace HP2 := Lib.hid (HP2.out.below hb)
  replace HB := Lib.hid (HB.out.trans (hb.mono hs0))
  replace hN : N ≤ wpP.heap.size := Nat.le_trans hN hb.size
  replace hs0 : w.heap.size ≤ wpP.heap.size := Nat.le_trans hs0 hb.size
  replace hl_P : wb.heap.size < wpP.heap.size := Nat.lt_of_lt_of_le hl_P hb.size
  replace HT := Lib.hid (HT.out.below hb)
  clear hb
  clear hl_P f_P HX_P k_P_0 k_P_1 k_P_2
  clear HP1
  clear HP2
  go_wp2_with fail
  go_ret
  exact ⟨rfl, HB.out⟩

end Go.Proofs.YtmecipfdelgfbaaDoor
