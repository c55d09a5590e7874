import Derived.Test.YtjobopafcgnljaaGreatAl
import Derived.Test.YtjobopafcgnljaaGreatTblA
import Derived.Test.YtjobopafcgnljaaGreatNulA
namespace Go.Proofs.YtjobopafcgnljaaGreat
open Go.RowKit
theorem nuW_00 (s f : Nat → Nat) : nuW s f 0 0 0 = 1 := by simp [nuW]
theorem nuW_0 (s f : Nat → Nat) {r d : Nat} (h : ¬ (r = 0 ∧ d = 0)) : nuW s f 0 r d = 0 := by unfold nuW; rw [if_neg h]
def Nv (N : Nat) (m : Nat) (u : Value) (w : World) : Prop := ∃ r c, u = .slice r (nlen m) c ∧ Nt N w r (nlen m) c m
theorem Nv.below {N m : Nat} {u : Value} {w w' : World} (h : Nv N m u w) (hb : Below w.heap.size w w') : Nv N m u w' := by obtain ⟨r, c, e, h⟩ := h; exact ⟨r, c, e, h.below hb⟩
def CutNt (N : Nat) (W : World) (g o v : Nat) (w : World) : Prop :=
 ∃ w1 r c, Since W w1 ∧ Nt N w1 r (nlen v) c v ∧ w = w1.setCell ⟨g, o, none⟩ (.slice r (nlen v) c)
def NulJ1 (N tn R M ww k1 e _c1 : Nat) (sa va rm : Option Addr) (pl sc _pv vl vc _nv lm cm _mu pm pn : Nat) (W : World) (z0 : Act) (L : Nat → Bool) (z1 : Act) (w : World) : Prop :=
 ∃ u92 u93 u94 u95 u96 u97 u98 u99 u100 u101 u102 u103 u104 u105 u106 u107 u108 u109 u110, z1 = (((((((((((((((((((z0.put (some 92) u92).put (some 93) u93).put (some 94) u94).put (some 95) u95).put (some 96) u96).put (some 97) u97).put (some 98) u98).put (some 99) u99).put (some 100) u100).put (some 101) u101).put (some 102) u102).put (some 103) u103).put (some 104) u104).put (some 105) u105).put (some 106) u106).put (some 107) u107).put (some 108) u108).put (some 109) u109).put (some 110) u110) ∧
  ((L 19 = false ∧ Since W w ∧ (L 0 = true → u92 = .slice (some ⟨tn, 0, none⟩) R R) ∧ (L 1 = true → u93 = .int .i64 ww) ∧ (L 2 = true → u94 = .int .i64 k1) ∧ (L 3 = true → u95 = .pointer (some ⟨tn, k1, none⟩)) ∧ (L 4 = true → u96 = .slice (some ⟨tn + 1 + k1, 0, none⟩) M M) ∧ (L 5 = true → u97 = .int .i64 e) ∧ (L 6 = true → u98 = .slice (some ⟨tn, 0, none⟩) R R) ∧ (L 7 = true → u99 = .int .i64 ww) ∧ (L 8 = true → u100 = .int .i64 k1) ∧ (L 9 = true → u101 = .pointer (some ⟨tn, k1, none⟩)) ∧ (L 10 = true → u102 = .slice (some ⟨tn + 1 + k1, 0, none⟩) M M) ∧ (L 11 = true → u103 = .int .i64 e) ∧ (L 12 = true → u104 = .pointer (some ⟨tn + 1 + k1, e, none⟩)) ∧ (L 13 = true → u105 = .slice sa pl sc) ∧ (L 14 = true → u106 = .slice va vl vc) ∧ (L 15 = true → u107 = .slice rm lm cm) ∧ (L 16 = true → Nv N pm u108 w) ∧ (L 17 = true → Nv N pn u109 w) ∧ (L 18 = true → u110 = .pointer (some ⟨tn + 1 + k1, e, none⟩))) ∨
  (L 19 = true ∧ (∀ j, j < 19 → L j = true) ∧ CutNt N W (tn + 1 + k1) e pn w))
def NulJ2 (N tn R M ww _k1 e c1 : Nat) (sa va rm : Option Addr) (pl sc _pv vl vc _nv lm cm _mu pm pn : Nat) (W : World) (z0 : Act) (L : Nat → Bool) (z1 : Act) (w : World) : Prop :=
 ∃ u114 u115 u116 u117 u118 u119 u120 u121 u122 u123 u124 u125 u126 u127 u128 u129 u130 u131 u132 u133 u134, z1 = (((((((((((((((((((((z0.put (some 114) u114).put (some 115) u115).put (some 116) u116).put (some 117) u117).put (some 118) u118).put (some 119) u119).put (some 120) u120).put (some 121) u121).put (some 122) u122).put (some 123) u123).put (some 124) u124).put (some 125) u125).put (some 126) u126).put (some 127) u127).put (some 128) u128).put (some 129) u129).put (some 130) u130).put (some 131) u131).put (some 132) u132).put (some 133) u133).put (some 134) u134) ∧
  ((L 21 = false ∧ Since W w ∧ (L 0 = true → u114 = .slice (some ⟨tn, 0, none⟩) R R) ∧ (L 1 = true → u115 = .int .i64 ww) ∧ (L 2 = true → u116 = .pointer (some ⟨tn, ww, none⟩)) ∧ (L 3 = true → u117 = .slice (some ⟨tn + 1 + ww, 0, none⟩) M M) ∧ (L 4 = true → u118 = .int .i64 e) ∧ (L 5 = true → u119 = .int .i64 ww) ∧ (L 6 = true → u120 = .int .i64 c1) ∧ (L 7 = true → u121 = .slice (some ⟨tn, 0, none⟩) R R) ∧ (L 8 = true → u122 = .int .i64 ww) ∧ (L 9 = true → u123 = .pointer (some ⟨tn, ww, none⟩)) ∧ (L 10 = true → u124 = .slice (some ⟨tn + 1 + ww, 0, none⟩) M M) ∧ (L 11 = true → u125 = .int .i64 e) ∧ (L 12 = true → u126 = .int .i64 ww) ∧ (L 13 = true → u127 = .int .i64 c1) ∧ (L 14 = true → u128 = .pointer (some ⟨tn + 1 + ww, c1, none⟩)) ∧ (L 15 = true → u129 = .slice sa pl sc) ∧ (L 16 = true → u130 = .slice va vl vc) ∧ (L 17 = true → u131 = .slice rm lm cm) ∧ (L 18 = true → Nv N pm u132 w) ∧ (L 19 = true → Nv N pn u133 w) ∧ (L 20 = true → u134 = .pointer (some ⟨tn + 1 + ww, c1, none⟩))) ∨
  (L 21 = true ∧ (∀ j, j < 21 → L j = true) ∧ CutNt N W (tn + 1 + ww) c1 pn w))
set_option maxRecDepth 20000 in
set_option maxHeartbeats 4000000 in
theorem null_ok {N : Nat} (a : Option Addr) (n cap : Nat) (q : Nat → Rat) (L : Nat) (w : World) (hN : N ≤ w.heap.size) (h : Rs N w a n cap q L) (hL : L ≤ 2097152) (hc : chkF q n = 0) :
  Calls Tryz.prog 27 #[.slice a n cap] w (DistPost N w (n * n / 4 + 1) (nlQ q n)) := by
 have HC := Lib.hid hc
 obtain ⟨h20, hx⟩ := chkF_ok hc
 clear hc
 have HX := Lib.hid hx
 have HDL := Lib.hid (show ∀ i, i < n → nlen (deQ q i) ≤ L from fun i hi => by have := h.lim i hi; unfold rsz at this; unfold deQ; omega)
 have HAw := Lib.hid h
 have bc := h.1
 have bm := h.2.1
 unfold maxLen at bm
 clear h hx
 obtain ⟨M, hM⟩ : ∃ M, n * n / 4 + 1 = M := ⟨_, rfl⟩
 have hnn : n * n ≤ 400 := Nat.le_trans (Nat.mul_le_mul h20 h20) (by decide)
 have hM1 : M ≤ 101 := by omega
 rw [hM]
 have HM := Lib.hid hM
 clear hM
 have hN0 := hN
 go_enter Tryz.func27, Tryz.ntmps27
 go_wp2_with fail
 refine (fcheck_any (N := N) _ _ _ q L _ hN HAw.out hL 0 HC.out).mono ?_
 rintro e wa ⟨rfl, hb⟩
 have HB := Lib.hid hb
 have hs0 : w.heap.size ≤ wa.heap.size := hb.size
 replace hN : N ≤ wa.heap.size := Nat.le_trans hN hs0
 clear hb
 go_wp2_with fail
 obtain ⟨R, hR⟩ : ∃ R, n + 1 = R := ⟨_, rfl⟩
 have hR2 : R ≤ 21 := by omega
 have hR1 : 1 ≤ R := by omega
 have HR := Lib.hid hR
 have eR : ((n : Int) + 1) = (R : Int) := by omega
 have eM : ((n : Int) * (n : Int) / 4 + 1) = (M : Int) := by rw [← HM.out]; rfl
 rw [eR, eM]
 have ER := Lib.hid eR
 clear hR eR eM
 refine (blank_any (N := N) R M _ hN (by omega) (by omega)).mono ?_
 rintro e wb ⟨tb, rfl, htb, hsz, htn, hb⟩
 have HT := Lib.hid htn
 have htb0 : w.heap.size ≤ tb := by omega
 replace HB := Lib.hid (HB.out.trans (hb.mono hs0))
 replace hN : N ≤ wb.heap.size := Nat.le_trans hN hb.size
 replace hs0 : w.heap.size ≤ wb.heap.size := Nat.le_trans hs0 hb.size
 have hNt : N ≤ tb := by omega
 have hM0 : 0 < M := by have := HM.out; omega
 clear htn hb
 obtain ⟨c0, c1⟩ := HT.out.2 0 hR1
 obtain ⟨sa, sc, c2, _⟩ := c1.2 0 hM0
 have fz := c1.1.frozen 0
 have hlt : tb + 1 + 0 < wb.heap.size := c1.1.lt
 have hlt0 : tb < wb.heap.size := by omega
 rw [Nat.add_zero] at c0 c2 fz hlt
 clear c1
 go_upto_region 7 with fail
 go_cut [] from 22 (fun wx => Hid (Tn N wx tb R M (nuW (nuQ q) (faQ q) 0)) ∧ Hid (Below w.heap.size w wx) ∧ N ≤ wx.heap.size ∧ w.heap.size ≤ wx.heap.size)
 case first =>
  go_region_with
   (go_at_call 47; refine (of_any (N := N) 1 _ (by decide)).mono ?_; rintro e wc ⟨r1, k1, rfl, hn1, hb⟩; replace hb : Below wb.heap.size wb wc := (by first | exact hb | exact bel_of_drew hb); have k0 := (hb.cell (p := ⟨tb, 0, none⟩) hlt0).trans c0; have k2 := (hb.cell (p := ⟨tb + 1, 0, none⟩) hlt).trans c2; have fz2 : wc.frozen? ⟨tb + 1, 0, none⟩ = false := (hb.frozen (p := ⟨tb + 1, 0, none⟩) hlt).trans fz; have HN1 := Lib.hid hn1; have Hb := Lib.hid hb; clear hb hn1)
  all_goals
   go_wp2_with fail
   go_meet
   have HTb := HT.out.below Hb.out
   have hsb := Hb.out.size
   refine ⟨Lib.hid (HTb.set (k := 0) (c := 0) hNt hR1 hM0 (nuW_00 _ _) HN1.out (fun r hr d hd hne => by rw [nuW_0 _ _ hne])), Lib.hid ((HB.out.trans (Hb.out.mono hs0)).setCell ?_ _), ?_, ?_⟩
   all_goals first | omega | (simp; done) | (simp; omega)
 case rest =>
  obtain ⟨HT1, HB1, hN1, hs1⟩ := hcut
  clear HT HB hN hs0 c0 c2 fz hlt hlt0
  have HT := HT1
  have HB := HB1
  have hN := hN1
  have hs0 := hs1
  clear HT1 HB1 hN1 hs1
  go_wp2_with fail
  refine (of_any (N := N) 1 _ (by decide)).mono ?_
  rintro e wd ⟨r1, k1, rfl, hn1, hb⟩
  replace HT := Lib.hid (HT.out.below hb)
  replace HB := Lib.hid (HB.out.trans (hb.mono hs0))
  replace hN : N ≤ wd.heap.size := Nat.le_trans hN hb.size
  replace hs0 : w.heap.size ≤ wd.heap.size := Nat.le_trans hs0 hb.size
  have HN1 := Lib.hid hn1
  clear hb hn1
  go_wp2_with fail
  go_loopw [7, 8, 46] (fun wt al i wr => ∃ (k tc : Nat) (r : Option Addr) (c : Nat), k ≤ n ∧ i = .int .i64 k ∧ wt = .slice (some ⟨tc, 0, none⟩) R R ∧ w.heap.size ≤ tc ∧ Tn N wr tc R M (nuW (nuQ q) (faQ q) k) ∧ al = .slice r (nlen (prN (deQ q) k)) c ∧ Nt N wr r (nlen (prN (deQ q) k)) c (prN (deQ q) k) ∧ Below w.heap.size w wr) (fun _ _ i _ => n - (intOf i).toNat)
  case atStart => exact ⟨0, _, _, _, Nat.zero_le _, rfl, rfl, htb0, HT.out, rfl, HN1.out, HB.out⟩
  case round =>
   clear HT HB hN hs0 HN1
   obtain ⟨k, tc, ra0, ca0, hk, rfl, rfl, htc0, htt, rfl, hnt, hbel⟩ := hrel
   obtain ⟨wo, rfl⟩ : ∃ x : World, x = wr := ⟨_, rfl⟩
   have HTT := Lib.hid htt
   have HAL := Lib.hid hnt
   have HBw := Lib.hid hbel
   have hsw : w.heap.size ≤ wo.heap.size := hbel.size
   have hN : N ≤ wo.heap.size := by omega
   clear htt hnt hbel
   by_cases hkn : k < n
   ·obtain ⟨b, off, rfl, hcs⟩ := (HAw.out.below HBw.out).2.2 (by omega)
    obtain ⟨sk, ra, rn, rc, da, dn, dc, g0, g1, g2, hrt⟩ := hcs k hkn
    have HR := Lib.hid hrt
    clear hcs hrt
    have lq := rsz_of HR.out
    have lq1 : nlen (q k).num.natAbs ≤ L := by unfold rsz at lq; omega
    have lq2 : nlen (q k).den ≤ L := by unfold rsz at lq; omega
    clear lq
    have hle := prb_le (q k) (HX.out k hkn)
    have hdl : nlen (prN (deQ q) k) ≤ L * k + 1 := prN_len (fun i hi => HDL.out i (by omega))
    have hdl1 : nlen (prN (deQ q) (k + 1)) ≤ L * (k + 1) + 1 := prN_len (fun i hi => HDL.out i (by omega))
    have hlk : L * k ≤ 2097152 * 20 := Nat.mul_le_mul hL (by omega)
    have hlk1 : L * (k + 1) ≤ 2097152 * 20 := Nat.mul_le_mul hL (by omega)
    have HB := Lib.hid (Below.refl wo.heap.size wo)
    go_wp2_with fail
    refine calls_name fun W1 hW => ?_
    have hs_W1 : wo.heap.size ≤ W1.heap.size := by rw [← hW]; exact OmT
    have HK_W1 := Lib.hid (show Kp N wo W1 by rw [← hW]; exact KpA)
    have k_P_0 : W1.cell? ⟨wo.heap.size, 0, none⟩ = some (.bool sk) := by rw [← hW]; exact CeA
    have k_P_1 : W1.cell? ⟨wo.heap.size, 1, none⟩ = some (.slice ra rn rc) := by rw [← hW]; exact CeA
    have k_P_2 : W1.cell? ⟨wo.heap.size, 2, none⟩ = some (.slice da dn dc) := by rw [← hW]; exact CeA
    have f_P : ∀ o, W1.frozen? ⟨wo.heap.size, o, none⟩ = false := by intro o; rw [← hW]; exact CeA
    have HX_P := Lib.hid (show Bn W1 (wo.heap.size) by rw [← hW]; exact KpA)
    replace HR := Lib.hid (HR.out.keep HK_W1.out)
    replace HAL := Lib.hid (HAL.out.keep HK_W1.out)
    replace HB := Lib.hid (show Below wo.heap.size wo W1 by rw [← hW]; exact BlA)
    replace hN : N ≤ W1.heap.size := by rw [← hW]; exact OmT
    have hs0 : wo.heap.size ≤ W1.heap.size := by rw [← hW]; exact OmT
    have hl_P : wo.heap.size < W1.heap.size := by rw [← hW]; exact OmT
    clear hW HK_W1
    refine (rnorm_any (N := N) _ _ _ _ _ _ _ L (q k) _ hN HR.out (by omega)).mono ?_
    rintro e wa ⟨rx, cx, rx2, cx2, rfl, hn, hn', hb⟩
    have hs_wa : W1.heap.size ≤ wa.heap.size := hb.size
    replace k_P_0 : wa.cell? ⟨wo.heap.size, 0, none⟩ = some (.bool sk) := (hb.cell (p := ⟨wo.heap.size, 0, none⟩) hl_P).trans k_P_0
    replace k_P_1 : wa.cell? ⟨wo.heap.size, 1, none⟩ = some (.slice ra rn rc) := (hb.cell (p := ⟨wo.heap.size, 1, none⟩) hl_P).trans k_P_1
    replace k_P_2 : wa.cell? ⟨wo.heap.size, 2, none⟩ = some (.slice da dn dc) := (hb.cell (p := ⟨wo.heap.size, 2, none⟩) hl_P).trans k_P_2
    replace f_P : ∀ o, wa.frozen? ⟨wo.heap.size, o, none⟩ = false := fun o => (hb.frozen (p := ⟨wo.heap.size, o, none⟩) hl_P).trans (f_P o)
    replace HX_P := Lib.hid (HX_P.out.below hb)
    replace HR := Lib.hid (HR.out.below hb)
    replace HAL := Lib.hid (HAL.out.below hb)
    replace HB := Lib.hid (HB.out.trans (hb.mono hs0))
    replace hN : N ≤ wa.heap.size := Nat.le_trans hN hb.size
    replace hs0 : wo.heap.size ≤ wa.heap.size := Nat.le_trans hs0 hb.size
    replace hl_P : wo.heap.size < wa.heap.size := Nat.lt_of_lt_of_le hl_P hb.size
    clear hb
    have HX1 := Lib.hid hn
    clear hn
    have HX2 := Lib.hid hn'
    clear hn'
    go_wp2_with fail
    clear HR
    refine calls_name fun W2 hW => ?_
    have hs_W2 : wa.heap.size ≤ W2.heap.size := by rw [← hW]; exact OmT
    have HK_W2 := Lib.hid (show Kp N wa W2 by rw [← hW]; exact KpA)
    replace k_P_0 : W2.cell? ⟨wo.heap.size, 0, none⟩ = some (.bool (decide ((q k).num < 0))) := by rw [← hW]; (first | (go_simp; done) | (simp [go_sem, k_P_0]; done) | (simp [go_sem, k_P_0, k_P_1, k_P_2]; done) | (simp [go_sem, k_P_0, k_P_1, k_P_2, f_P, hl_P]; done))
    replace k_P_1 : W2.cell? ⟨wo.heap.size, 1, none⟩ = some (.slice rx (nlen (q k).num.natAbs) cx) := by rw [← hW]; (first | (go_simp; done) | (simp [go_sem, k_P_1]; done) | (simp [go_sem, k_P_0, k_P_1, k_P_2]; done) | (simp [go_sem, k_P_0, k_P_1, k_P_2, f_P, hl_P]; done))
    replace k_P_2 : W2.cell? ⟨wo.heap.size, 2, none⟩ = some (.slice rx2 (nlen (q k).den) cx2) := by rw [← hW]; (first | (go_simp; done) | (simp [go_sem, k_P_2]; done) | (simp [go_sem, k_P_0, k_P_1, k_P_2]; done) | (simp [go_sem, k_P_0, k_P_1, k_P_2, f_P, hl_P]; done))
    replace f_P : ∀ o, W2.frozen? ⟨wo.heap.size, o, none⟩ = false := by intro o; rw [← hW]; (first | with_reducible exact f_P o | (simp [go_sem, f_P]; done) | (simp [go_sem, f_P, hl_P]; done) | (go_simp; done) | (simp [go_sem, k_P_0, k_P_1, k_P_2, f_P, hl_P]; done))
    replace HX_P := Lib.hid (show Bn W2 (wo.heap.size) by rw [← hW]; exact KpA)
    replace HAL := Lib.hid (HAL.out.keep HK_W2.out)
    replace HX1 := Lib.hid (HX1.out.keep HK_W2.out)
    replace HX2 := Lib.hid (HX2.out.keep HK_W2.out)
    replace HB := Lib.hid (show Below wo.heap.size wo W2 by rw [← hW]; exact BlA)
    replace hN : N ≤ W2.heap.size := by rw [← hW]; exact OmT
    replace hs0 : wo.heap.size ≤ W2.heap.size := by rw [← hW]; exact OmT
    replace hl_P : wo.heap.size < W2.heap.size := by rw [← hW]; exact OmT
    clear hW HK_W2
    refine (sub_any (N := N) _ _ _ _ (q k).den _ _ (q k).num.natAbs _ hN HX2.out HX1.out (by omega) hle).mono ?_
    rintro e wb ⟨ry, cy, rfl, hn, hb⟩
    have hs_wb : W2.heap.size ≤ wb.heap.size := hb.size
    replace k_P_0 : wb.cell? ⟨wo.heap.size, 0, none⟩ = some (.bool (decide ((q k).num < 0))) := (hb.cell (p := ⟨wo.heap.size, 0, none⟩) hl_P).trans k_P_0
    replace k_P_1 : wb.cell? ⟨wo.heap.size, 1, none⟩ = some (.slice rx (nlen (q k).num.natAbs) cx) := (hb.cell (p := ⟨wo.heap.size, 1, none⟩) hl_P).trans k_P_1
    replace k_P_2 : wb.cell? ⟨wo.heap.size, 2, none⟩ = some (.slice rx2 (nlen (q k).den) cx2) := (hb.cell (p := ⟨wo.heap.size, 2, none⟩) hl_P).trans k_P_2
    replace f_P : ∀ o, wb.frozen? ⟨wo.heap.size, o, none⟩ = false := fun o => (hb.frozen (p := ⟨wo.heap.size, o, none⟩) hl_P).trans (f_P o)
    replace HX_P := Lib.hid (HX_P.out.below hb)
    replace HAL := Lib.hid (HAL.out.below hb)
    replace HX1 := Lib.hid (HX1.out.below hb)
    replace HX2 := Lib.hid (HX2.out.below hb)
    replace HB := Lib.hid (HB.out.trans (hb.mono hs0))
    replace hN : N ≤ wb.heap.size := Nat.le_trans hN hb.size
    replace hs0 : wo.heap.size ≤ wb.heap.size := Nat.le_trans hs0 hb.size
    replace hl_P : wo.heap.size < wb.heap.size := Nat.lt_of_lt_of_le hl_P hb.size
    clear hb
    have HY1 := Lib.hid hn
    clear hn
    go_wp2_with fail
    refine (mul_any (N := N) _ _ _ _ (prN (deQ q) k) _ _ (q k).den _ hN HAL.out HX2.out (by omega) (by omega)).mono ?_
    rintro e wc ⟨rz, cz, rfl, hn, hb⟩
    have hs_wc : wb.heap.size ≤ wc.heap.size := hb.size
    replace k_P_0 : wc.cell? ⟨wo.heap.size, 0, none⟩ = some (.bool (decide ((q k).num < 0))) := (hb.cell (p := ⟨wo.heap.size, 0, none⟩) hl_P).trans k_P_0
    replace k_P_1 : wc.cell? ⟨wo.heap.size, 1, none⟩ = some (.slice rx (nlen (q k).num.natAbs) cx) := (hb.cell (p := ⟨wo.heap.size, 1, none⟩) hl_P).trans k_P_1
    replace k_P_2 : wc.cell? ⟨wo.heap.size, 2, none⟩ = some (.slice rx2 (nlen (q k).den) cx2) := (hb.cell (p := ⟨wo.heap.size, 2, none⟩) hl_P).trans k_P_2
    replace f_P : ∀ o, wc.frozen? ⟨wo.heap.size, o, none⟩ = false := fun o => (hb.frozen (p := ⟨wo.heap.size, o, none⟩) hl_P).trans (f_P o)
    replace HX_P := Lib.hid (HX_P.out.below hb)
    replace HAL := Lib.hid (HAL.out.below hb)
    replace HX1 := Lib.hid (HX1.out.below hb)
    replace HX2 := Lib.hid (HX2.out.below hb)
    replace HY1 := Lib.hid (HY1.out.below hb)
    replace HB := Lib.hid (HB.out.trans (hb.mono hs0))
    replace hN : N ≤ wc.heap.size := Nat.le_trans hN hb.size
    replace hs0 : wo.heap.size ≤ wc.heap.size := Nat.le_trans hs0 hb.size
    replace hl_P : wo.heap.size < wc.heap.size := Nat.lt_of_lt_of_le hl_P hb.size
    clear hb
    have HZ1 := Lib.hid hn
    clear hn
    go_wp2_with fail
    clear hl_P f_P HX_P k_P_0 k_P_1 k_P_2
    rw [ER.out]
    refine (blank_any (N := N) R M _ hN (by omega) (by omega)).mono ?_
    rintro e wd ⟨tn, rfl, htn, hszn, htb, hb⟩
    have hs_wd : wc.heap.size ≤ wd.heap.size := hb.size
    replace HAL := Lib.hid (HAL.out.below hb)
    replace HX1 := Lib.hid (HX1.out.below hb)
    replace HX2 := Lib.hid (HX2.out.below hb)
    replace HY1 := Lib.hid (HY1.out.below hb)
    replace HZ1 := Lib.hid (HZ1.out.below hb)
    replace HB := Lib.hid (HB.out.trans (hb.mono hs0))
    replace hN : N ≤ wd.heap.size := Nat.le_trans hN hb.size
    replace hs0 : wo.heap.size ≤ wd.heap.size := Nat.le_trans hs0 hb.size
    clear hb
    have HTN := Lib.hid htb
    clear htb
    go_wp2_with fail
    obtain ⟨lx, hlx⟩ : ∃ l, nlen (q k).num.natAbs = l := ⟨_, rfl⟩
    obtain ⟨ly, hly⟩ : ∃ l, nlen ((q k).den - (q k).num.natAbs) = l := ⟨_, rfl⟩
    rw [hlx] at HX1 lq1
    rw [hly] at HY1
    rw [hlx, hly]
    have HLX := Lib.hid hlx
    have HLY := Lib.hid hly
    have lq3 : ly ≤ L := by rw [← hly]; exact Nat.le_trans (nlen_mono (Nat.sub_le _ _)) lq2
    have HSU := Lib.hid (show ∀ i, i < n → nuQ q i + faQ q i = deQ q i from fun i h => by have := prb_le (q i) (HX.out i h); unfold nuQ faQ deQ; omega)
    clear hlx hly
    have hRk : n < R := by have := HR.out; omega
    have htnw : wo.heap.size ≤ tn := by omega
    go_loopw [15] (fun i wq => ∃ ww : Nat, ww ≤ k + 1 ∧ i = .int .i64 ww ∧ Tn N wq tn R M (nuP (nuQ q) (faQ q) k ww 0) ∧ Below wo.heap.size wo wq ∧ Nt N wq rx lx cx (q k).num.natAbs ∧ Nt N wq ry ly cy ((q k).den - (q k).num.natAbs) ∧ Nt N wq rz (nlen (prN (deQ q) k * (q k).den)) cz (prN (deQ q) k * (q k).den)) (fun i _ => k + 1 - (intOf i).toNat)
    case atStart => exact ⟨0, Nat.zero_le _, rfl, HTN.out.congr (fun r _ c _ => (nuP_0 _ _ _ _ _).symm), HB.out, HX1.out, HY1.out, HZ1.out⟩
    case round =>
     clear HTN HB HX1 HY1 HZ1 hN hs0
     obtain ⟨ww, hww, rfl, htn1, hbel, hx1, hy1, hz1⟩ := hrel
     obtain ⟨wq, rfl⟩ : ∃ x : World, x = wr := ⟨_, rfl⟩
     have HTN := Lib.hid htn1
     have HB := Lib.hid hbel
     have HX1 := Lib.hid hx1
     have HY1 := Lib.hid hy1
     have HZ1 := Lib.hid hz1
     have hs0 : wo.heap.size ≤ wq.heap.size := hbel.size
     have hN : N ≤ wq.heap.size := by omega
     clear htn1 hbel hx1 hy1 hz1
     by_cases hwk : ww ≤ k
     ·obtain ⟨gw, gr⟩ := HTT.out.2 ww (by omega)
      have gw2 := cell_mono gw HB.out
      have GR := Lib.hid gr
      clear gw gr
      go_wp2_with fail
      go_loopw [81] (fun j wp => ∃ e : Nat, e ≤ M ∧ j = .int .i64 e ∧ Tn N wp tn R M (nuP (nuQ q) (faQ q) k ww e) ∧ Below wo.heap.size wo wp ∧ Nt N wp rx lx cx (q k).num.natAbs ∧ Nt N wp ry ly cy ((q k).den - (q k).num.natAbs) ∧ Nt N wp rz (nlen (prN (deQ q) k * (q k).den)) cz (prN (deQ q) k * (q k).den)) (fun j _ => M - (intOf j).toNat)
      case atStart => exact ⟨0, Nat.zero_le _, rfl, HTN.out, HB.out, HX1.out, HY1.out, HZ1.out⟩
      case round =>
       clear HTN HB HX1 HY1 HZ1 hN hs0
       obtain ⟨e, hee, rfl, htn1, hbel, hx1, hy1, hz1⟩ := hrel
       obtain ⟨wp, rfl⟩ : ∃ x : World, x = wr := ⟨_, rfl⟩
       have HTN := Lib.hid htn1
       have HB := Lib.hid hbel
       have HX1 := Lib.hid hx1
       have HY1 := Lib.hid hy1
       have HZ1 := Lib.hid hz1
       have hs0 : wo.heap.size ≤ wp.heap.size := hbel.size
       have hN : N ≤ wp.heap.size := by omega
       clear htn1 hbel hx1 hy1 hz1
       by_cases he : e < M
       ·obtain ⟨va, vc, gv, hv⟩ := GR.out.2 e he
        have gv2 := cell_mono gv HB.out
        have HV := Lib.hid (hv.below HB.out)
        obtain ⟨vl, hvl⟩ : ∃ l, nlen (nuW (nuQ q) (faQ q) k ww e) = l := ⟨_, rfl⟩
        have hlv : vl ≤ 50000000 := by rw [← hvl]; exact Nat.le_trans (nlen_mono (nuW_le (n := n) _ _ _ HSU.out k (by omega) ww e)) (by omega)
        rw [hvl] at gv2 HV
        have HVL := Lib.hid hvl
        clear gv hv hvl
        by_cases hv0 : vl = 0
        ·subst hv0
         go_wp2_with fail
         go_roundw
         case rel => exact ⟨e + 1, by omega, by go_num, HTN.out.congr (fun r _ c _ => (nuP_skip _ _ _ _ _ (nlen_eq_zero.1 HVL.out) r c).symm), HB.out, HX1.out, HY1.out, HZ1.out⟩
         case measure => simp [intOf]; omega
        ·have hne : (nuW (nuQ q) (faQ q) k ww e) ≠ 0 := fun h => hv0 (by rw [← HVL.out, h]; exact nlen_zero)
         have hin := nuW_in (nuQ q) (faQ q) k ww e n hne hkn
         have hMe : e + ww < M := by have := HM.out; omega
         have HNE := Lib.hid hne
         clear hne hin
         have d1 : decide ((vl : Int) = 0) = false := by simp; omega
         have dv : ((vl : Int) == 0) = false := by simp; omega
         go_upto_if 91 with fail
         go_cut [81] from 81 to 135 (fun s wx => s = .int .i64 e ∧ Hid (Tn N wx tn R M (nuH (nuQ q) (faQ q) k ww e)) ∧ Hid (Below wo.heap.size wo wx) ∧ Hid (Nt N wx va vl vc (nuW (nuQ q) (faQ q) k ww e)) ∧ Hid (Nt N wx rx lx cx (q k).num.natAbs ∧ Nt N wx ry ly cy ((q k).den - (q k).num.natAbs) ∧ Nt N wx rz (nlen (prN (deQ q) k * (q k).den)) cz (prN (deQ q) k * (q k).den)))
         case first =>
          by_cases hy0 : ly = 0
          ·subst hy0
           go_wp2_with fail
           go_meet
           exact ⟨rfl, Lib.hid (HTN.out.congr (fun r _ c _ => by unfold nuH; rw [show faQ q k = 0 from nlen_eq_zero.1 HLY.out]; simp)), HB, HV, Lib.hid ⟨HX1.out, HY1.out, HZ1.out⟩⟩
          ·obtain ⟨k1, hk1⟩ : ∃ k1, ww + 1 = k1 := ⟨_, rfl⟩
           have hwr : IntKind.i64.wrap ((ww : Int) + 1) = (k1 : Int) := by rw [IntKind.wrap_i64]; omega
           have hwr2 : (ww : Int) + 1 = (k1 : Int) := by omega
           have hi0 : (0 : Int) ≤ (k1 : Int) := by omega
           have hi1 : (k1 : Int) < (R : Int) := by omega
           have hi3 : (0 : Int) ≤ (e : Int) := by omega
           have hi4 : (e : Int) < (M : Int) := by omega
           have d2 : decide ((0 : Int) < (ly : Int)) = true := by simp; omega
           have d2' : decide (0 < ly) = true := by simp; omega
           obtain ⟨g1, g2⟩ := HTN.out.2 k1 (by omega)
           obtain ⟨sa, sc, g3, g4'⟩ := g2.2 e (by omega)
           have fz := g2.1.frozen e
           have hl1 : tn + 1 + k1 < wp.heap.size := g2.1.lt
           have hl0 : tn < wp.heap.size := by omega
           have bn1 := HTN.out.2 k1 (by omega)
           have HBN := Lib.hid bn1.2.bn
           clear bn1
           obtain ⟨pv, hpv⟩ : ∃ p, (nuP (nuQ q) (faQ q) k ww e) k1 e = p := ⟨_, rfl⟩
           rw [hpv] at g3 g4'
           obtain ⟨pl, hpl⟩ : ∃ l, nlen pv = l := ⟨_, rfl⟩
           have hlp : pl ≤ 50000000 := by rw [← hpl, ← hpv]; exact Nat.le_trans (nlen_mono (Nat.le_trans (nuP_le _ _ _ _ _ _ _) (nuW_le (n := n) _ _ _ HSU.out (k + 1) (by omega) _ _))) (by omega)
           rw [hpl] at g3 g4'
           have HPV := Lib.hid g4'
           clear g2 g4' hpl
           obtain ⟨nv, hnv⟩ : ∃ p, (nuW (nuQ q) (faQ q) k ww e) = p := ⟨_, rfl⟩
           have HNV := HV
           rw [hnv] at HNV
           obtain ⟨mu, hmu⟩ : ∃ p, ((q k).den - (q k).num.natAbs) = p := ⟨_, rfl⟩
           have HMU := HY1
           rw [hmu] at HMU
           have hll : nlen nv = vl := by rw [← hnv]; exact HVL.out
           have hlm : nlen mu = ly := by rw [← hmu]; exact HLY.out
           have lm := nlen_mul nv mu
           rw [hll, hlm] at lm
           obtain ⟨pm, hpm⟩ : ∃ p, nv * mu = p := ⟨_, rfl⟩
           rw [hpm] at lm
           have HPM := Lib.hid hpm
           obtain ⟨pn, hpn⟩ : ∃ p, pv + pm = p := ⟨_, rfl⟩
           have HPN := Lib.hid hpn
           have HEQ := Lib.hid (And.intro hpv (And.intro hnv hmu))
           clear hpv hnv hmu hpm hpn hll hlm
           go_upto_region 25 with fail
           simp only [d2']
           refine region_inv2 (by kernel_rfl) (NulJ1 N tn R M ww k1 e 0 sa va ry pl sc pv vl vc nv ly cy mu pm pn (wp)) ?_ ?_ ?_ ?_
           ·exact ⟨u92, u93, u94, u95, u96, u97, u98, u99, u100, u101, u102, u103, u104, u105, u106, u107, u108, u109, u110, by simp only [Act.put, aT, aZ, aS], .inl ⟨rfl, Since.drawn _, NoR⟩⟩
           ·exact acyc_spec (by kernel_rfl)
           ·intro Ls a0 wq i o ho hLi hafter hJ
            obtain ⟨u92, u93, u94, u95, u96, u97, u98, u99, u100, u101, u102, u103, u104, u105, u106, u107, u108, u109, u110, rfl, hJ | ⟨h10, hall, _⟩⟩ := hJ
            ·obtain ⟨hLl, hS, p0, p1, p2, p3, p4, p5, p6, p7, p8, p9, p10, p11, p12, p13, p14, p15, p16, p17, p18⟩ := hJ
             have P0 := Lib.hid p0; have P1 := Lib.hid p1; have P2 := Lib.hid p2; have P3 := Lib.hid p3; have P4 := Lib.hid p4; have P5 := Lib.hid p5; have P6 := Lib.hid p6; have P7 := Lib.hid p7; have P8 := Lib.hid p8; have P9 := Lib.hid p9; have P10 := Lib.hid p10; have P11 := Lib.hid p11; have P12 := Lib.hid p12; have P13 := Lib.hid p13; have P14 := Lib.hid p14; have P15 := Lib.hid p15; have P16 := Lib.hid p16; have P17 := Lib.hid p17; have P18 := Lib.hid p18; have HS := Lib.hid hS; clear hS p0 p1 p2 p3 p4 p5 p6 p7 p8 p9 p10 p11 p12 p13 p14 p15 p16 p17 p18
             have hi : i < 20 := (Array.getElem?_eq_some_iff.1 ho).1
             obtain rfl | rfl | rfl | rfl | rfl | rfl | rfl | rfl | rfl | rfl | rfl | rfl | rfl | rfl | rfl | rfl | rfl | rfl | rfl | rfl : i = 0 ∨ i = 1 ∨ i = 2 ∨ i = 3 ∨ i = 4 ∨ i = 5 ∨ i = 6 ∨ i = 7 ∨ i = 8 ∨ i = 9 ∨ i = 10 ∨ i = 11 ∨ i = 12 ∨ i = 13 ∨ i = 14 ∨ i = 15 ∨ i = 16 ∨ i = 17 ∨ i = 18 ∨ i = 19 := by omega
             ·simp only [gT, gZ, Option.some.injEq] at ho
              subst ho
              clear hLi hafter
              simp only [Act.put, aT, aZ, aS]
              go_wp2_with fail
              exact ⟨.slice (some ⟨tn, 0, none⟩) R R, u93, u94, u95, u96, u97, u98, u99, u100, u101, u102, u103, u104, u105, u106, u107, u108, u109, u110, by simp only [Act.put, aT, aZ, aS], .inl ⟨by simpa using hLl, HS.out, (fun _ => rfl), PvR⟩⟩
             ·simp only [gT, gZ, gS, Option.some.injEq] at ho
              subst ho
              clear hLi hafter
              simp only [Act.put, aT, aZ, aS]
              go_wp2_with fail
              exact ⟨u92, .int .i64 ww, u94, u95, u96, u97, u98, u99, u100, u101, u102, u103, u104, u105, u106, u107, u108, u109, u110, by simp only [Act.put, aT, aZ, aS], .inl ⟨by simpa using hLl, HS.out, PvA, (fun _ => rfl), PvR⟩⟩
             ·simp only [gT, gZ, gS, Option.some.injEq] at ho
              subst ho
              obtain rfl := P1.out (hafter ⟨1, .data⟩ (by simp) rfl)
              clear hLi hafter
              simp only [Act.put, aT, aZ, aS]
              go_wp2_with fail
              exact ⟨u92, .int .i64 ww, .int .i64 k1, u95, u96, u97, u98, u99, u100, u101, u102, u103, u104, u105, u106, u107, u108, u109, u110, by simp only [Act.put, aT, aZ, aS], .inl ⟨by simpa using hLl, HS.out, PvA, PvA, (fun _ => rfl), PvR⟩⟩
             ·simp only [gT, gZ, gS, Option.some.injEq] at ho
              subst ho
              obtain rfl := P0.out (hafter ⟨0, .data⟩ (by simp) rfl)
              obtain rfl := P2.out (hafter ⟨2, .data⟩ (by simp) rfl)
              clear hLi hafter
              simp only [Act.put, aT, aZ, aS]
              go_wp2_with fail
              exact ⟨.slice (some ⟨tn, 0, none⟩) R R, u93, .int .i64 k1, .pointer (some ⟨tn, k1, none⟩), u96, u97, u98, u99, u100, u101, u102, u103, u104, u105, u106, u107, u108, u109, u110, by simp only [Act.put, aT, aZ, aS], .inl ⟨by simpa using hLl, HS.out, PvA, PvA, PvA, (fun _ => rfl), PvR⟩⟩
             ·simp only [gT, gZ, gS, Option.some.injEq] at ho
              subst ho
              obtain rfl := P3.out (hafter ⟨3, .data⟩ (by simp) rfl)
              have c0 := (HS.out.1.cell (p := ⟨tn, k1, none⟩) hl0).trans g1
              clear hLi hafter
              simp only [Act.put, aT, aZ, aS]
              go_wp2_with fail
              exact ⟨u92, u93, u94, .pointer (some ⟨tn, k1, none⟩), .slice (some ⟨tn + 1 + k1, 0, none⟩) M M, u97, u98, u99, u100, u101, u102, u103, u104, u105, u106, u107, u108, u109, u110, by simp only [Act.put, aT, aZ, aS], .inl ⟨by simpa using hLl, HS.out, PvA, PvA, PvA, PvA, (fun _ => rfl), PvR⟩⟩
             ·simp only [gT, gZ, gS, Option.some.injEq] at ho
              subst ho
              clear hLi hafter
              simp only [Act.put, aT, aZ, aS]
              go_wp2_with fail
              exact ⟨u92, u93, u94, u95, u96, .int .i64 e, u98, u99, u100, u101, u102, u103, u104, u105, u106, u107, u108, u109, u110, by simp only [Act.put, aT, aZ, aS], .inl ⟨by simpa using hLl, HS.out, PvA, PvA, PvA, PvA, PvA, (fun _ => rfl), PvR⟩⟩
             ·simp only [gT, gZ, gS, Option.some.injEq] at ho
              subst ho
              clear hLi hafter
              simp only [Act.put, aT, aZ, aS]
              go_wp2_with fail
              exact ⟨u92, u93, u94, u95, u96, u97, .slice (some ⟨tn, 0, none⟩) R R, u99, u100, u101, u102, u103, u104, u105, u106, u107, u108, u109, u110, by simp only [Act.put, aT, aZ, aS], .inl ⟨by simpa using hLl, HS.out, PvA, PvA, PvA, PvA, PvA, PvA, (fun _ => rfl), PvR⟩⟩
             ·simp only [gT, gZ, gS, Option.some.injEq] at ho
              subst ho
              clear hLi hafter
              simp only [Act.put, aT, aZ, aS]
              go_wp2_with fail
              exact ⟨u92, u93, u94, u95, u96, u97, u98, .int .i64 ww, u100, u101, u102, u103, u104, u105, u106, u107, u108, u109, u110, by simp only [Act.put, aT, aZ, aS], .inl ⟨by simpa using hLl, HS.out, PvA, PvA, PvA, PvA, PvA, PvA, PvA, (fun _ => rfl), PvR⟩⟩
             ·simp only [gT, gZ, gS, Option.some.injEq] at ho
              subst ho
              obtain rfl := P7.out (hafter ⟨7, .data⟩ (by simp) rfl)
              clear hLi hafter
              simp only [Act.put, aT, aZ, aS]
              go_wp2_with fail
              exact ⟨u92, u93, u94, u95, u96, u97, u98, .int .i64 ww, .int .i64 k1, u101, u102, u103, u104, u105, u106, u107, u108, u109, u110, by simp only [Act.put, aT, aZ, aS], .inl ⟨by simpa using hLl, HS.out, PvA, PvA, PvA, PvA, PvA, PvA, PvA, PvA, (fun _ => rfl), PvR⟩⟩
             ·simp only [gT, gZ, gS, Option.some.injEq] at ho
              subst ho
              obtain rfl := P6.out (hafter ⟨6, .data⟩ (by simp) rfl)
              obtain rfl := P8.out (hafter ⟨8, .data⟩ (by simp) rfl)
              clear hLi hafter
              simp only [Act.put, aT, aZ, aS]
              go_wp2_with fail
              exact ⟨u92, u93, u94, u95, u96, u97, .slice (some ⟨tn, 0, none⟩) R R, u99, .int .i64 k1, .pointer (some ⟨tn, k1, none⟩), u102, u103, u104, u105, u106, u107, u108, u109, u110, by simp only [Act.put, aT, aZ, aS], .inl ⟨by simpa using hLl, HS.out, PvA, PvA, PvA, PvA, PvA, PvA, PvA, PvA, PvA, (fun _ => rfl), PvR⟩⟩
             ·simp only [gT, gZ, gS, Option.some.injEq] at ho
              subst ho
              obtain rfl := P9.out (hafter ⟨9, .data⟩ (by simp) rfl)
              have c0 := (HS.out.1.cell (p := ⟨tn, k1, none⟩) hl0).trans g1
              clear hLi hafter
              simp only [Act.put, aT, aZ, aS]
              go_wp2_with fail
              exact ⟨u92, u93, u94, u95, u96, u97, u98, u99, u100, .pointer (some ⟨tn, k1, none⟩), .slice (some ⟨tn + 1 + k1, 0, none⟩) M M, u103, u104, u105, u106, u107, u108, u109, u110, by simp only [Act.put, aT, aZ, aS], .inl ⟨by simpa using hLl, HS.out, PvA, PvA, PvA, PvA, PvA, PvA, PvA, PvA, PvA, PvA, (fun _ => rfl), PvR⟩⟩
             ·simp only [gT, gZ, gS, Option.some.injEq] at ho
              subst ho
              clear hLi hafter
              simp only [Act.put, aT, aZ, aS]
              go_wp2_with fail
              exact ⟨u92, u93, u94, u95, u96, u97, u98, u99, u100, u101, u102, .int .i64 e, u104, u105, u106, u107, u108, u109, u110, by simp only [Act.put, aT, aZ, aS], .inl ⟨by simpa using hLl, HS.out, PvA, PvA, PvA, PvA, PvA, PvA, PvA, PvA, PvA, PvA, PvA, (fun _ => rfl), PvR⟩⟩
             ·simp only [gT, gZ, gS, Option.some.injEq] at ho
              subst ho
              obtain rfl := P10.out (hafter ⟨10, .data⟩ (by simp) rfl)
              obtain rfl := P11.out (hafter ⟨11, .data⟩ (by simp) rfl)
              clear hLi hafter
              simp only [Act.put, aT, aZ, aS]
              go_wp2_with fail
              exact ⟨u92, u93, u94, u95, u96, u97, u98, u99, u100, u101, .slice (some ⟨tn + 1 + k1, 0, none⟩) M M, .int .i64 e, .pointer (some ⟨tn + 1 + k1, e, none⟩), u105, u106, u107, u108, u109, u110, by simp only [Act.put, aT, aZ, aS], .inl ⟨by simpa using hLl, HS.out, PvA, PvA, PvA, PvA, PvA, PvA, PvA, PvA, PvA, PvA, PvA, PvA, (fun _ => rfl), PvR⟩⟩
             ·simp only [gT, gZ, gS, Option.some.injEq] at ho
              subst ho
              obtain rfl := P12.out (hafter ⟨12, .data⟩ (by simp) rfl)
              have c0 := (HS.out.1.cell (p := ⟨tn + 1 + k1, e, none⟩) hl1).trans g3
              clear hLi hafter
              simp only [Act.put, aT, aZ, aS]
              go_wp2_with fail
              exact ⟨u92, u93, u94, u95, u96, u97, u98, u99, u100, u101, u102, u103, .pointer (some ⟨tn + 1 + k1, e, none⟩), .slice sa pl sc, u106, u107, u108, u109, u110, by simp only [Act.put, aT, aZ, aS], .inl ⟨by simpa using hLl, HS.out, PvA, PvA, PvA, PvA, PvA, PvA, PvA, PvA, PvA, PvA, PvA, PvA, PvA, (fun _ => rfl), PvR⟩⟩
             ·simp only [gT, gZ, gS, Option.some.injEq] at ho
              subst ho
              clear hLi hafter
              simp only [Act.put, aT, aZ, aS]
              go_wp2_with fail
              exact ⟨u92, u93, u94, u95, u96, u97, u98, u99, u100, u101, u102, u103, u104, u105, .slice va vl vc, u107, u108, u109, u110, by simp only [Act.put, aT, aZ, aS], .inl ⟨by simpa using hLl, HS.out, PvA, PvA, PvA, PvA, PvA, PvA, PvA, PvA, PvA, PvA, PvA, PvA, PvA, PvA, (fun _ => rfl), PvR⟩⟩
             ·simp only [gT, gZ, gS, Option.some.injEq] at ho
              subst ho
              clear hLi hafter
              simp only [Act.put, aT, aZ, aS]
              go_wp2_with fail
              exact ⟨u92, u93, u94, u95, u96, u97, u98, u99, u100, u101, u102, u103, u104, u105, u106, .slice ry ly cy, u108, u109, u110, by simp only [Act.put, aT, aZ, aS], .inl ⟨by simpa using hLl, HS.out, PvA, PvA, PvA, PvA, PvA, PvA, PvA, PvA, PvA, PvA, PvA, PvA, PvA, PvA, PvA, (fun _ => rfl), PvR⟩⟩
             ·simp only [gT, gZ, gS, Option.some.injEq] at ho
              subst ho
              obtain rfl := P14.out (hafter ⟨14, .data⟩ (by simp) rfl)
              obtain rfl := P15.out (hafter ⟨15, .data⟩ (by simp) rfl)
              clear hLi hafter
              simp only [Act.put, aT, aZ, aS]
              go_wp2_with fail
              refine (mul_any (N := N) _ _ _ _ nv _ _ mu _ (by have := HS.out.2; omega) (HNV.out.below HS.out.1) (HMU.out.below HS.out.1) (by omega) (by omega)).mono ?_
              rw [HPM.out]
              rintro e wn ⟨r, c, rfl, hn, hb⟩
              have HN := Lib.hid hn
              have Hb := Lib.hid hb
              clear hn hb
              go_wp2_with fail
              exact ⟨u92, u93, u94, u95, u96, u97, u98, u99, u100, u101, u102, u103, u104, u105, .slice va vl vc, .slice ry ly cy, _, u109, u110, by simp only [Act.put, aT, aZ, aS], .inl ⟨by simpa using hLl, HS.out.below Hb.out, PvA, PvA, PvA, PvA, PvA, PvA, PvA, PvA, PvA, PvA, PvA, PvA, PvA, PvA, PvA, PvA, (fun _ => ⟨r, c, rfl, HN.out⟩), (fun h => (P17.out (by simpa using h)).below Hb.out), PvA⟩⟩
             ·simp only [gT, gZ, gS, Option.some.injEq] at ho
              subst ho
              obtain rfl := P13.out (hafter ⟨13, .data⟩ (by simp) rfl)
              obtain ⟨r16, c16, rfl, hn16⟩ := P16.out (hafter ⟨16, .data⟩ (by simp) rfl)
              have HN16 := Lib.hid hn16
              clear hn16
              clear hLi hafter
              simp only [Act.put, aT, aZ, aS]
              go_wp2_with fail
              refine (add_any (N := N) _ _ _ _ pv _ _ pm _ (by have := HS.out.2; omega) (HPV.out.below HS.out.1) HN16.out (by omega) (by omega)).mono ?_
              rw [HPN.out]
              rintro e wn ⟨r, c, rfl, hn, hb⟩
              have HN := Lib.hid hn
              have Hb := Lib.hid hb
              clear hn hb
              go_wp2_with fail
              exact ⟨u92, u93, u94, u95, u96, u97, u98, u99, u100, u101, u102, u103, u104, .slice sa pl sc, u106, u107, _, _, u110, by simp only [Act.put, aT, aZ, aS], .inl ⟨by simpa using hLl, HS.out.below Hb.out, PvA, PvA, PvA, PvA, PvA, PvA, PvA, PvA, PvA, PvA, PvA, PvA, PvA, PvA, PvA, PvA, (fun h => (P16.out (by simpa using h)).below Hb.out), (fun _ => ⟨r, c, rfl, HN.out⟩), PvA⟩⟩
             ·simp only [gT, gZ, gS, Option.some.injEq] at ho
              subst ho
              obtain rfl := P4.out (hafter ⟨4, .data⟩ (by simp) rfl)
              obtain rfl := P5.out (hafter ⟨5, .data⟩ (by simp) rfl)
              clear hLi hafter
              simp only [Act.put, aT, aZ, aS]
              go_wp2_with fail
              exact ⟨u92, u93, u94, u95, .slice (some ⟨tn + 1 + k1, 0, none⟩) M M, .int .i64 e, u98, u99, u100, u101, u102, u103, u104, u105, u106, u107, u108, u109, .pointer (some ⟨tn + 1 + k1, e, none⟩), by simp only [Act.put, aT, aZ, aS], .inl ⟨by simpa using hLl, HS.out, PvA, PvA, PvA, PvA, PvA, PvA, PvA, PvA, PvA, PvA, PvA, PvA, PvA, PvA, PvA, PvA, PvA, PvA, (fun _ => rfl)⟩⟩
             ·simp only [gT, gZ, gS, Option.some.injEq] at ho
              subst ho
              have hall : ∀ j, j < 19 → Ls j = true := by
               intro j hj
               obtain rfl | rfl | rfl | rfl | rfl | rfl | rfl | rfl | rfl | rfl | rfl | rfl | rfl | rfl | rfl | rfl | rfl | rfl | rfl : j = 0 ∨ j = 1 ∨ j = 2 ∨ j = 3 ∨ j = 4 ∨ j = 5 ∨ j = 6 ∨ j = 7 ∨ j = 8 ∨ j = 9 ∨ j = 10 ∨ j = 11 ∨ j = 12 ∨ j = 13 ∨ j = 14 ∨ j = 15 ∨ j = 16 ∨ j = 17 ∨ j = 18 := by omega
               all_goals first | (refine hafter ⟨_, .phase⟩ ?_ rfl; simp; done) | (refine hafter ⟨_, .data⟩ ?_ rfl; simp; done)
              have HALL := Lib.hid hall
              clear hall
              obtain ⟨r17, c17, rfl, hn17⟩ := P17.out (hafter ⟨17, .data⟩ (by simp) rfl)
              have HN17 := Lib.hid hn17
              clear hn17
              obtain rfl := P18.out (hafter ⟨18, .data⟩ (by simp) rfl)
              have c0 := (HS.out.1.cell (p := ⟨tn + 1 + k1, e, none⟩) hl1).trans g3
              have fz1 : wq.frozen? ⟨tn + 1 + k1, e, none⟩ = false := (HS.out.1.frozen (p := ⟨tn + 1 + k1, e, none⟩) hl1).trans fz
              clear hLi hafter
              simp only [Act.put, aT, aZ, aS]
              go_wp2_with fail
              exact ⟨u92, u93, u94, u95, u96, u97, u98, u99, u100, u101, u102, u103, u104, u105, u106, u107, u108, .slice r17 (nlen pn) c17, .pointer (some ⟨tn + 1 + k1, e, none⟩), by simp only [Act.put, aT, aZ, aS], .inr ⟨by simp, fun j hj => by simp [HALL.out j hj], ⟨_, _, _, HS.out, HN17.out, rfl⟩⟩⟩
            ·exfalso
             have hi : i < 20 := (Array.getElem?_eq_some_iff.1 ho).1
             rcases Nat.lt_or_ge i 19 with h | h
             ·rw [hall i h] at hLi; cases hLi
             ·obtain rfl : i = 19 := by omega
              rw [h10] at hLi; cases hLi
           ·intro Ls a0 wq hall hJ
            obtain ⟨u92, u93, u94, u95, u96, u97, u98, u99, u100, u101, u102, u103, u104, u105, u106, u107, u108, u109, u110, rfl, ⟨h10, _⟩ | ⟨_, _, hcut⟩⟩ := hJ
            ·rw [hall 19 (by decide)] at h10; cases h10
            ·obtain ⟨w1, r1, k1', hs, hn, rfl⟩ := hcut
             have Hs := Lib.hid hs
             have Hn := Lib.hid hn
             clear hs hn
             simp only [Act.put, aT, aZ, aS]
             go_wp2_with fail
             go_meet
             have kp : Kp N w1 (w1.setCell ⟨tn + 1 + k1, e, none⟩ (.slice r1 (nlen pn) k1')) := (Kp.refl N w1).put (by omega) (HBN.out.below Hs.out.1) _
             obtain ⟨e1, e2, e3⟩ := HEQ.out
             exact ⟨rfl, Lib.hid ((HTN.out.below Hs.out.1).set (k := k1) (c := e) (y := (nuH (nuQ q) (faQ q) k ww e)) (by omega) (by omega) he (show (nuH (nuQ q) (faQ q) k ww e) k1 e = pn by unfold nuH; rw [if_pos ⟨hk1.symm, rfl⟩, e1, e2, ← HPN.out, ← HPM.out, ← e3]; rfl) Hn.out (fun r _ d _ hne => by unfold nuH; rw [if_neg (fun hh => hne ⟨hh.1.trans hk1, hh.2⟩), Nat.add_zero])), Lib.hid ((HB.out.trans (Hs.out.1.mono hs0)).setCell (show wo.heap.size ≤ tn + 1 + k1 by omega) _), Lib.hid ((HV.out.below Hs.out.1).keep kp), Lib.hid ⟨((HX1.out.below Hs.out.1).keep kp), ((HY1.out.below Hs.out.1).keep kp), ((HZ1.out.below Hs.out.1).keep kp)⟩⟩
         case rest =>
          obtain ⟨rfl, htn1, hbel, hv, hxyz⟩ := hcut
          obtain ⟨wx, rfl⟩ : ∃ x : World, x = wc := ⟨_, rfl⟩
          clear HTN HB HX1 HY1 HZ1 hN hs0 HV gv2
          have HTN := htn1
          have HB := hbel
          have HV := hv
          have HX1 := Lib.hid hxyz.out.1
          have HY1 := Lib.hid hxyz.out.2.1
          have HZ1 := Lib.hid hxyz.out.2.2
          have hs0 : wo.heap.size ≤ wx.heap.size := hbel.out.size
          have hN : N ≤ wx.heap.size := by omega
          clear htn1 hbel hv hxyz
          by_cases hx0 : lx = 0
          ·subst hx0
           go_wp2_with fail
           go_roundw
           case rel => exact ⟨e + 1, by omega, by go_num, HTN.out.congr (fun r _ c _ => by rw [nuP_step, show nuQ q k = 0 from nlen_eq_zero.1 HLX.out]; simp), HB.out, HX1.out, HY1.out, HZ1.out⟩
           case measure => simp [intOf]; omega
          ·obtain ⟨c1, hc1⟩ : ∃ c1, e + ww = c1 := ⟨_, rfl⟩
           have hwr : IntKind.i64.wrap ((e : Int) + (ww : Int)) = (c1 : Int) := by rw [IntKind.wrap_i64]; omega
           have hwr2 : (e : Int) + (ww : Int) = (c1 : Int) := by omega
           have hi0 : (0 : Int) ≤ (ww : Int) := by omega
           have hi1 : (ww : Int) < (R : Int) := by omega
           have hi3 : (0 : Int) ≤ (c1 : Int) := by omega
           have hi4 : (c1 : Int) < (M : Int) := by omega
           have d2 : decide ((0 : Int) < (lx : Int)) = true := by simp; omega
           have d2' : decide (0 < lx) = true := by simp; omega
           obtain ⟨g1, g2⟩ := HTN.out.2 ww (by omega)
           obtain ⟨sa, sc, g3, g4'⟩ := g2.2 c1 (by omega)
           have fz := g2.1.frozen c1
           have hl1 : tn + 1 + ww < wx.heap.size := g2.1.lt
           have hl0 : tn < wx.heap.size := by omega
           have bn1 := HTN.out.2 ww (by omega)
           have HBN := Lib.hid bn1.2.bn
           clear bn1
           obtain ⟨pv, hpv⟩ : ∃ p, (nuH (nuQ q) (faQ q) k ww e) ww c1 = p := ⟨_, rfl⟩
           rw [hpv] at g3 g4'
           obtain ⟨pl, hpl⟩ : ∃ l, nlen pv = l := ⟨_, rfl⟩
           have hlp : pl ≤ 50000000 := by rw [← hpl, ← hpv]; exact Nat.le_trans (nlen_mono (Nat.le_trans (nuH_le _ _ _ _ _ _ _) (nuW_le (n := n) _ _ _ HSU.out (k + 1) (by omega) _ _))) (by omega)
           rw [hpl] at g3 g4'
           have HPV := Lib.hid g4'
           clear g2 g4' hpl
           obtain ⟨nv, hnv⟩ : ∃ p, (nuW (nuQ q) (faQ q) k ww e) = p := ⟨_, rfl⟩
           have HNV := HV
           rw [hnv] at HNV
           obtain ⟨mu, hmu⟩ : ∃ p, (q k).num.natAbs = p := ⟨_, rfl⟩
           have HMU := HX1
           rw [hmu] at HMU
           have hll : nlen nv = vl := by rw [← hnv]; exact HVL.out
           have hlm : nlen mu = lx := by rw [← hmu]; exact HLX.out
           have lm := nlen_mul nv mu
           rw [hll, hlm] at lm
           obtain ⟨pm, hpm⟩ : ∃ p, nv * mu = p := ⟨_, rfl⟩
           rw [hpm] at lm
           have HPM := Lib.hid hpm
           obtain ⟨pn, hpn⟩ : ∃ p, pv + pm = p := ⟨_, rfl⟩
           have HPN := Lib.hid hpn
           have HEQ := Lib.hid (And.intro hpv (And.intro hnv hmu))
           clear hpv hnv hmu hpm hpn hll hlm
           go_upto_region 27 with fail
           refine region_inv2 (by kernel_rfl) (NulJ2 N tn R M ww 0 e c1 sa va rx pl sc pv vl vc nv lx cx mu pm pn (wx)) ?_ ?_ ?_ ?_
           ·exact ⟨u114, u115, u116, u117, u118, u119, u120, u121, u122, u123, u124, u125, u126, u127, u128, u129, u130, u131, u132, u133, u134, by simp only [Act.put, aT, aZ, aS], .inl ⟨rfl, Since.drawn _, NoR⟩⟩
           ·exact acyc_spec (by kernel_rfl)
           ·intro Ls a0 wq i o ho hLi hafter hJ
            obtain ⟨u114, u115, u116, u117, u118, u119, u120, u121, u122, u123, u124, u125, u126, u127, u128, u129, u130, u131, u132, u133, u134, rfl, hJ | ⟨h10, hall, _⟩⟩ := hJ
            ·obtain ⟨hLl, hS, p0, p1, p2, p3, p4, p5, p6, p7, p8, p9, p10, p11, p12, p13, p14, p15, p16, p17, p18, p19, p20⟩ := hJ
             have P0 := Lib.hid p0; have P1 := Lib.hid p1; have P2 := Lib.hid p2; have P3 := Lib.hid p3; have P4 := Lib.hid p4; have P5 := Lib.hid p5; have P6 := Lib.hid p6; have P7 := Lib.hid p7; have P8 := Lib.hid p8; have P9 := Lib.hid p9; have P10 := Lib.hid p10; have P11 := Lib.hid p11; have P12 := Lib.hid p12; have P13 := Lib.hid p13; have P14 := Lib.hid p14; have P15 := Lib.hid p15; have P16 := Lib.hid p16; have P17 := Lib.hid p17; have P18 := Lib.hid p18; have P19 := Lib.hid p19; have P20 := Lib.hid p20; have HS := Lib.hid hS; clear hS p0 p1 p2 p3 p4 p5 p6 p7 p8 p9 p10 p11 p12 p13 p14 p15 p16 p17 p18 p19 p20
             have hi : i < 22 := (Array.getElem?_eq_some_iff.1 ho).1
             obtain rfl | rfl | rfl | rfl | rfl | rfl | rfl | rfl | rfl | rfl | rfl | rfl | rfl | rfl | rfl | rfl | rfl | rfl | rfl | rfl | rfl | rfl : i = 0 ∨ i = 1 ∨ i = 2 ∨ i = 3 ∨ i = 4 ∨ i = 5 ∨ i = 6 ∨ i = 7 ∨ i = 8 ∨ i = 9 ∨ i = 10 ∨ i = 11 ∨ i = 12 ∨ i = 13 ∨ i = 14 ∨ i = 15 ∨ i = 16 ∨ i = 17 ∨ i = 18 ∨ i = 19 ∨ i = 20 ∨ i = 21 := by omega
             ·simp only [gT, gZ, Option.some.injEq] at ho
              subst ho
              clear hLi hafter
              simp only [Act.put, aT, aZ, aS]
              go_wp2_with fail
              exact ⟨.slice (some ⟨tn, 0, none⟩) R R, u115, u116, u117, u118, u119, u120, u121, u122, u123, u124, u125, u126, u127, u128, u129, u130, u131, u132, u133, u134, by simp only [Act.put, aT, aZ, aS], .inl ⟨by simpa using hLl, HS.out, (fun _ => rfl), PvR⟩⟩
             ·simp only [gT, gZ, gS, Option.some.injEq] at ho
              subst ho
              clear hLi hafter
              simp only [Act.put, aT, aZ, aS]
              go_wp2_with fail
              exact ⟨u114, .int .i64 ww, u116, u117, u118, u119, u120, u121, u122, u123, u124, u125, u126, u127, u128, u129, u130, u131, u132, u133, u134, by simp only [Act.put, aT, aZ, aS], .inl ⟨by simpa using hLl, HS.out, PvA, (fun _ => rfl), PvR⟩⟩
             ·simp only [gT, gZ, gS, Option.some.injEq] at ho
              subst ho
              obtain rfl := P0.out (hafter ⟨0, .data⟩ (by simp) rfl)
              obtain rfl := P1.out (hafter ⟨1, .data⟩ (by simp) rfl)
              clear hLi hafter
              simp only [Act.put, aT, aZ, aS]
              go_wp2_with fail
              exact ⟨.slice (some ⟨tn, 0, none⟩) R R, .int .i64 ww, .pointer (some ⟨tn, ww, none⟩), u117, u118, u119, u120, u121, u122, u123, u124, u125, u126, u127, u128, u129, u130, u131, u132, u133, u134, by simp only [Act.put, aT, aZ, aS], .inl ⟨by simpa using hLl, HS.out, PvA, PvA, (fun _ => rfl), PvR⟩⟩
             ·simp only [gT, gZ, gS, Option.some.injEq] at ho
              subst ho
              obtain rfl := P2.out (hafter ⟨2, .data⟩ (by simp) rfl)
              have c0 := (HS.out.1.cell (p := ⟨tn, ww, none⟩) hl0).trans g1
              clear hLi hafter
              simp only [Act.put, aT, aZ, aS]
              go_wp2_with fail
              exact ⟨u114, u115, .pointer (some ⟨tn, ww, none⟩), .slice (some ⟨tn + 1 + ww, 0, none⟩) M M, u118, u119, u120, u121, u122, u123, u124, u125, u126, u127, u128, u129, u130, u131, u132, u133, u134, by simp only [Act.put, aT, aZ, aS], .inl ⟨by simpa using hLl, HS.out, PvA, PvA, PvA, (fun _ => rfl), PvR⟩⟩
             ·simp only [gT, gZ, gS, Option.some.injEq] at ho
              subst ho
              clear hLi hafter
              simp only [Act.put, aT, aZ, aS]
              go_wp2_with fail
              exact ⟨u114, u115, u116, u117, .int .i64 e, u119, u120, u121, u122, u123, u124, u125, u126, u127, u128, u129, u130, u131, u132, u133, u134, by simp only [Act.put, aT, aZ, aS], .inl ⟨by simpa using hLl, HS.out, PvA, PvA, PvA, PvA, (fun _ => rfl), PvR⟩⟩
             ·simp only [gT, gZ, gS, Option.some.injEq] at ho
              subst ho
              clear hLi hafter
              simp only [Act.put, aT, aZ, aS]
              go_wp2_with fail
              exact ⟨u114, u115, u116, u117, u118, .int .i64 ww, u120, u121, u122, u123, u124, u125, u126, u127, u128, u129, u130, u131, u132, u133, u134, by simp only [Act.put, aT, aZ, aS], .inl ⟨by simpa using hLl, HS.out, PvA, PvA, PvA, PvA, PvA, (fun _ => rfl), PvR⟩⟩
             ·simp only [gT, gZ, gS, Option.some.injEq] at ho
              subst ho
              obtain rfl := P4.out (hafter ⟨4, .data⟩ (by simp) rfl)
              obtain rfl := P5.out (hafter ⟨5, .data⟩ (by simp) rfl)
              clear hLi hafter
              simp only [Act.put, aT, aZ, aS]
              go_wp2_with fail
              exact ⟨u114, u115, u116, u117, .int .i64 e, .int .i64 ww, .int .i64 c1, u121, u122, u123, u124, u125, u126, u127, u128, u129, u130, u131, u132, u133, u134, by simp only [Act.put, aT, aZ, aS], .inl ⟨by simpa using hLl, HS.out, PvA, PvA, PvA, PvA, PvA, PvA, (fun _ => rfl), PvR⟩⟩
             ·simp only [gT, gZ, gS, Option.some.injEq] at ho
              subst ho
              clear hLi hafter
              simp only [Act.put, aT, aZ, aS]
              go_wp2_with fail
              exact ⟨u114, u115, u116, u117, u118, u119, u120, .slice (some ⟨tn, 0, none⟩) R R, u122, u123, u124, u125, u126, u127, u128, u129, u130, u131, u132, u133, u134, by simp only [Act.put, aT, aZ, aS], .inl ⟨by simpa using hLl, HS.out, PvA, PvA, PvA, PvA, PvA, PvA, PvA, (fun _ => rfl), PvR⟩⟩
             ·simp only [gT, gZ, gS, Option.some.injEq] at ho
              subst ho
              clear hLi hafter
              simp only [Act.put, aT, aZ, aS]
              go_wp2_with fail
              exact ⟨u114, u115, u116, u117, u118, u119, u120, u121, .int .i64 ww, u123, u124, u125, u126, u127, u128, u129, u130, u131, u132, u133, u134, by simp only [Act.put, aT, aZ, aS], .inl ⟨by simpa using hLl, HS.out, PvA, PvA, PvA, PvA, PvA, PvA, PvA, PvA, (fun _ => rfl), PvR⟩⟩
             ·simp only [gT, gZ, gS, Option.some.injEq] at ho
              subst ho
              obtain rfl := P7.out (hafter ⟨7, .data⟩ (by simp) rfl)
              obtain rfl := P8.out (hafter ⟨8, .data⟩ (by simp) rfl)
              clear hLi hafter
              simp only [Act.put, aT, aZ, aS]
              go_wp2_with fail
              exact ⟨u114, u115, u116, u117, u118, u119, u120, .slice (some ⟨tn, 0, none⟩) R R, .int .i64 ww, .pointer (some ⟨tn, ww, none⟩), u124, u125, u126, u127, u128, u129, u130, u131, u132, u133, u134, by simp only [Act.put, aT, aZ, aS], .inl ⟨by simpa using hLl, HS.out, PvA, PvA, PvA, PvA, PvA, PvA, PvA, PvA, PvA, (fun _ => rfl), PvR⟩⟩
             ·simp only [gT, gZ, gS, Option.some.injEq] at ho
              subst ho
              obtain rfl := P9.out (hafter ⟨9, .data⟩ (by simp) rfl)
              have c0 := (HS.out.1.cell (p := ⟨tn, ww, none⟩) hl0).trans g1
              clear hLi hafter
              simp only [Act.put, aT, aZ, aS]
              go_wp2_with fail
              exact ⟨u114, u115, u116, u117, u118, u119, u120, u121, u122, .pointer (some ⟨tn, ww, none⟩), .slice (some ⟨tn + 1 + ww, 0, none⟩) M M, u125, u126, u127, u128, u129, u130, u131, u132, u133, u134, by simp only [Act.put, aT, aZ, aS], .inl ⟨by simpa using hLl, HS.out, PvA, PvA, PvA, PvA, PvA, PvA, PvA, PvA, PvA, PvA, (fun _ => rfl), PvR⟩⟩
             ·simp only [gT, gZ, gS, Option.some.injEq] at ho
              subst ho
              clear hLi hafter
              simp only [Act.put, aT, aZ, aS]
              go_wp2_with fail
              exact ⟨u114, u115, u116, u117, u118, u119, u120, u121, u122, u123, u124, .int .i64 e, u126, u127, u128, u129, u130, u131, u132, u133, u134, by simp only [Act.put, aT, aZ, aS], .inl ⟨by simpa using hLl, HS.out, PvA, PvA, PvA, PvA, PvA, PvA, PvA, PvA, PvA, PvA, PvA, (fun _ => rfl), PvR⟩⟩
             ·simp only [gT, gZ, gS, Option.some.injEq] at ho
              subst ho
              clear hLi hafter
              simp only [Act.put, aT, aZ, aS]
              go_wp2_with fail
              exact ⟨u114, u115, u116, u117, u118, u119, u120, u121, u122, u123, u124, u125, .int .i64 ww, u127, u128, u129, u130, u131, u132, u133, u134, by simp only [Act.put, aT, aZ, aS], .inl ⟨by simpa using hLl, HS.out, PvA, PvA, PvA, PvA, PvA, PvA, PvA, PvA, PvA, PvA, PvA, PvA, (fun _ => rfl), PvR⟩⟩
             ·simp only [gT, gZ, gS, Option.some.injEq] at ho
              subst ho
              obtain rfl := P11.out (hafter ⟨11, .data⟩ (by simp) rfl)
              obtain rfl := P12.out (hafter ⟨12, .data⟩ (by simp) rfl)
              clear hLi hafter
              simp only [Act.put, aT, aZ, aS]
              go_wp2_with fail
              exact ⟨u114, u115, u116, u117, u118, u119, u120, u121, u122, u123, u124, .int .i64 e, .int .i64 ww, .int .i64 c1, u128, u129, u130, u131, u132, u133, u134, by simp only [Act.put, aT, aZ, aS], .inl ⟨by simpa using hLl, HS.out, PvA, PvA, PvA, PvA, PvA, PvA, PvA, PvA, PvA, PvA, PvA, PvA, PvA, (fun _ => rfl), PvR⟩⟩
             ·simp only [gT, gZ, gS, Option.some.injEq] at ho
              subst ho
              obtain rfl := P10.out (hafter ⟨10, .data⟩ (by simp) rfl)
              obtain rfl := P13.out (hafter ⟨13, .data⟩ (by simp) rfl)
              clear hLi hafter
              simp only [Act.put, aT, aZ, aS]
              go_wp2_with fail
              exact ⟨u114, u115, u116, u117, u118, u119, u120, u121, u122, u123, .slice (some ⟨tn + 1 + ww, 0, none⟩) M M, u125, u126, .int .i64 c1, .pointer (some ⟨tn + 1 + ww, c1, none⟩), u129, u130, u131, u132, u133, u134, by simp only [Act.put, aT, aZ, aS], .inl ⟨by simpa using hLl, HS.out, PvA, PvA, PvA, PvA, PvA, PvA, PvA, PvA, PvA, PvA, PvA, PvA, PvA, PvA, (fun _ => rfl), PvR⟩⟩
             ·simp only [gT, gZ, gS, Option.some.injEq] at ho
              subst ho
              obtain rfl := P14.out (hafter ⟨14, .data⟩ (by simp) rfl)
              have c0 := (HS.out.1.cell (p := ⟨tn + 1 + ww, c1, none⟩) hl1).trans g3
              clear hLi hafter
              simp only [Act.put, aT, aZ, aS]
              go_wp2_with fail
              exact ⟨u114, u115, u116, u117, u118, u119, u120, u121, u122, u123, u124, u125, u126, u127, .pointer (some ⟨tn + 1 + ww, c1, none⟩), .slice sa pl sc, u130, u131, u132, u133, u134, by simp only [Act.put, aT, aZ, aS], .inl ⟨by simpa using hLl, HS.out, PvA, PvA, PvA, PvA, PvA, PvA, PvA, PvA, PvA, PvA, PvA, PvA, PvA, PvA, PvA, (fun _ => rfl), PvR⟩⟩
             ·simp only [gT, gZ, gS, Option.some.injEq] at ho
              subst ho
              clear hLi hafter
              simp only [Act.put, aT, aZ, aS]
              go_wp2_with fail
              exact ⟨u114, u115, u116, u117, u118, u119, u120, u121, u122, u123, u124, u125, u126, u127, u128, u129, .slice va vl vc, u131, u132, u133, u134, by simp only [Act.put, aT, aZ, aS], .inl ⟨by simpa using hLl, HS.out, PvA, PvA, PvA, PvA, PvA, PvA, PvA, PvA, PvA, PvA, PvA, PvA, PvA, PvA, PvA, PvA, (fun _ => rfl), PvR⟩⟩
             ·simp only [gT, gZ, gS, Option.some.injEq] at ho
              subst ho
              clear hLi hafter
              simp only [Act.put, aT, aZ, aS]
              go_wp2_with fail
              exact ⟨u114, u115, u116, u117, u118, u119, u120, u121, u122, u123, u124, u125, u126, u127, u128, u129, u130, .slice rx lx cx, u132, u133, u134, by simp only [Act.put, aT, aZ, aS], .inl ⟨by simpa using hLl, HS.out, PvA, PvA, PvA, PvA, PvA, PvA, PvA, PvA, PvA, PvA, PvA, PvA, PvA, PvA, PvA, PvA, PvA, (fun _ => rfl), PvR⟩⟩
             ·simp only [gT, gZ, gS, Option.some.injEq] at ho
              subst ho
              obtain rfl := P16.out (hafter ⟨16, .data⟩ (by simp) rfl)
              obtain rfl := P17.out (hafter ⟨17, .data⟩ (by simp) rfl)
              clear hLi hafter
              simp only [Act.put, aT, aZ, aS]
              go_wp2_with fail
              refine (mul_any (N := N) _ _ _ _ nv _ _ mu _ (by have := HS.out.2; omega) (HNV.out.below HS.out.1) (HMU.out.below HS.out.1) (by omega) (by omega)).mono ?_
              rw [HPM.out]
              rintro e wn ⟨r, c, rfl, hn, hb⟩
              have HN := Lib.hid hn
              have Hb := Lib.hid hb
              clear hn hb
              go_wp2_with fail
              exact ⟨u114, u115, u116, u117, u118, u119, u120, u121, u122, u123, u124, u125, u126, u127, u128, u129, .slice va vl vc, .slice rx lx cx, _, u133, u134, by simp only [Act.put, aT, aZ, aS], .inl ⟨by simpa using hLl, HS.out.below Hb.out, PvA, PvA, PvA, PvA, PvA, PvA, PvA, PvA, PvA, PvA, PvA, PvA, PvA, PvA, PvA, PvA, PvA, PvA, (fun _ => ⟨r, c, rfl, HN.out⟩), (fun h => (P19.out (by simpa using h)).below Hb.out), PvA⟩⟩
             ·simp only [gT, gZ, gS, Option.some.injEq] at ho
              subst ho
              obtain rfl := P15.out (hafter ⟨15, .data⟩ (by simp) rfl)
              obtain ⟨r18, c18, rfl, hn18⟩ := P18.out (hafter ⟨18, .data⟩ (by simp) rfl)
              have HN18 := Lib.hid hn18
              clear hn18
              clear hLi hafter
              simp only [Act.put, aT, aZ, aS]
              go_wp2_with fail
              refine (add_any (N := N) _ _ _ _ pv _ _ pm _ (by have := HS.out.2; omega) (HPV.out.below HS.out.1) HN18.out (by omega) (by omega)).mono ?_
              rw [HPN.out]
              rintro e wn ⟨r, c, rfl, hn, hb⟩
              have HN := Lib.hid hn
              have Hb := Lib.hid hb
              clear hn hb
              go_wp2_with fail
              exact ⟨u114, u115, u116, u117, u118, u119, u120, u121, u122, u123, u124, u125, u126, u127, u128, .slice sa pl sc, u130, u131, _, _, u134, by simp only [Act.put, aT, aZ, aS], .inl ⟨by simpa using hLl, HS.out.below Hb.out, PvA, PvA, PvA, PvA, PvA, PvA, PvA, PvA, PvA, PvA, PvA, PvA, PvA, PvA, PvA, PvA, PvA, PvA, (fun h => (P18.out (by simpa using h)).below Hb.out), (fun _ => ⟨r, c, rfl, HN.out⟩), PvA⟩⟩
             ·simp only [gT, gZ, gS, Option.some.injEq] at ho
              subst ho
              obtain rfl := P3.out (hafter ⟨3, .data⟩ (by simp) rfl)
              obtain rfl := P6.out (hafter ⟨6, .data⟩ (by simp) rfl)
              clear hLi hafter
              simp only [Act.put, aT, aZ, aS]
              go_wp2_with fail
              exact ⟨u114, u115, u116, .slice (some ⟨tn + 1 + ww, 0, none⟩) M M, u118, u119, .int .i64 c1, u121, u122, u123, u124, u125, u126, u127, u128, u129, u130, u131, u132, u133, .pointer (some ⟨tn + 1 + ww, c1, none⟩), by simp only [Act.put, aT, aZ, aS], .inl ⟨by simpa using hLl, HS.out, PvA, PvA, PvA, PvA, PvA, PvA, PvA, PvA, PvA, PvA, PvA, PvA, PvA, PvA, PvA, PvA, PvA, PvA, PvA, PvA, (fun _ => rfl)⟩⟩
             ·simp only [gT, gZ, gS, Option.some.injEq] at ho
              subst ho
              have hall : ∀ j, j < 21 → Ls j = true := by
               intro j hj
               obtain rfl | rfl | rfl | rfl | rfl | rfl | rfl | rfl | rfl | rfl | rfl | rfl | rfl | rfl | rfl | rfl | rfl | rfl | rfl | rfl | rfl : j = 0 ∨ j = 1 ∨ j = 2 ∨ j = 3 ∨ j = 4 ∨ j = 5 ∨ j = 6 ∨ j = 7 ∨ j = 8 ∨ j = 9 ∨ j = 10 ∨ j = 11 ∨ j = 12 ∨ j = 13 ∨ j = 14 ∨ j = 15 ∨ j = 16 ∨ j = 17 ∨ j = 18 ∨ j = 19 ∨ j = 20 := by omega
               all_goals first | (refine hafter ⟨_, .phase⟩ ?_ rfl; simp; done) | (refine hafter ⟨_, .data⟩ ?_ rfl; simp; done)
              have HALL := Lib.hid hall
              clear hall
              obtain ⟨r19, c19, rfl, hn19⟩ := P19.out (hafter ⟨19, .data⟩ (by simp) rfl)
              have HN19 := Lib.hid hn19
              clear hn19
              obtain rfl := P20.out (hafter ⟨20, .data⟩ (by simp) rfl)
              have c0 := (HS.out.1.cell (p := ⟨tn + 1 + ww, c1, none⟩) hl1).trans g3
              have fz1 : wq.frozen? ⟨tn + 1 + ww, c1, none⟩ = false := (HS.out.1.frozen (p := ⟨tn + 1 + ww, c1, none⟩) hl1).trans fz
              clear hLi hafter
              simp only [Act.put, aT, aZ, aS]
              go_wp2_with fail
              exact ⟨u114, u115, u116, u117, u118, u119, u120, u121, u122, u123, u124, u125, u126, u127, u128, u129, u130, u131, u132, .slice r19 (nlen pn) c19, .pointer (some ⟨tn + 1 + ww, c1, none⟩), by simp only [Act.put, aT, aZ, aS], .inr ⟨by simp, fun j hj => by simp [HALL.out j hj], ⟨_, _, _, HS.out, HN19.out, rfl⟩⟩⟩
            ·exfalso
             have hi : i < 22 := (Array.getElem?_eq_some_iff.1 ho).1
             rcases Nat.lt_or_ge i 21 with h | h
             ·rw [hall i h] at hLi; cases hLi
             ·obtain rfl : i = 21 := by omega
              rw [h10] at hLi; cases hLi
           ·intro Ls a0 wq hall hJ
            obtain ⟨u114, u115, u116, u117, u118, u119, u120, u121, u122, u123, u124, u125, u126, u127, u128, u129, u130, u131, u132, u133, u134, rfl, ⟨h10, _⟩ | ⟨_, _, hcut⟩⟩ := hJ
            ·rw [hall 21 (by decide)] at h10; cases h10
            ·obtain ⟨w1, r1, k1', hs, hn, rfl⟩ := hcut
             have Hs := Lib.hid hs
             have Hn := Lib.hid hn
             clear hs hn
             simp only [Act.put, aT, aZ, aS]
             go_wp2_with fail
             have kp : Kp N w1 (w1.setCell ⟨tn + 1 + ww, c1, none⟩ (.slice r1 (nlen pn) k1')) := (Kp.refl N w1).put (by omega) (HBN.out.below Hs.out.1) _
             go_roundw
             case rel =>
              obtain ⟨e1, e2, e3⟩ := HEQ.out
              exact ⟨e + 1, by omega, by go_num, (HTN.out.below Hs.out.1).set (k := ww) (c := c1) (y := (nuP (nuQ q) (faQ q) k ww (e + 1))) (by omega) (by omega) (by omega) (show (nuP (nuQ q) (faQ q) k ww (e + 1)) ww c1 = pn by rw [nuP_step, if_pos ⟨rfl, hc1.symm⟩, e1, e2, ← HPN.out, ← HPM.out, ← e3]; rfl) Hn.out (fun r _ d _ hne => by rw [nuP_step, if_neg (fun hh => hne ⟨hh.1, hh.2.trans hc1⟩), Nat.add_zero]), (HB.out.trans (Hs.out.1.mono hs0)).setCell (show wo.heap.size ≤ tn + 1 + ww by omega) _, ((HX1.out.below Hs.out.1).keep kp), ((HY1.out.below Hs.out.1).keep kp), ((HZ1.out.below Hs.out.1).keep kp)⟩
             case measure => simp [intOf]; omega
       ·have e1 : e = M := by omega
        subst e1
        go_wp2_with fail
        go_roundw
        case rel => exact ⟨ww + 1, by omega, by go_num, HTN.out.congr (fun r _ c hc => nuP_row _ _ _ _ _ hc), HB.out, HX1.out, HY1.out, HZ1.out⟩
        case measure => simp [intOf]; omega
     ·have e1 : ww = k + 1 := by omega
      subst e1
      go_wp2_with fail
      go_roundw
      case rel => exact ⟨k + 1, tn, rz, cz, by omega, by go_num, rfl, by omega, HTN.out.congr (fun r _ c _ => nuP_end _ _ _ _ _), rfl, HZ1.out, HBw.out.trans (HB.out.mono hsw)⟩
      case measure => simp [intOf]; omega
   ·obtain rfl : n = k := by omega
    have hmk := make_rats M (by omega)
    have hdl : nlen (prN (deQ q) n) ≤ L * n + 1 := prN_len (fun i hi => HDL.out i hi)
    have hlk : L * n ≤ 2097152 * 20 := Nat.mul_le_mul hL (by omega)
    have hsu : ∀ i, i < n → nuQ q i + faQ q i = deQ q i := fun i h => by have := prb_le (q i) (HX.out i h); unfold nuQ faQ deQ; omega
    have HWL := Lib.hid (show ∀ r e, nlen (nuW (nuQ q) (faQ q) n r e) ≤ 50000000 from fun r e => Nat.le_trans (nlen_mono (nuW_le (n := n) _ _ _ hsu n (Nat.le_refl _) r e)) (by omega))
    clear hsu
    have HRR := Lib.hid (show n + 1 = R from HR.out)
    have hNo := hN
    go_wp2_with fail
    go_loopw [142] (fun j wr => ∃ e : Nat, e ≤ M ∧ j = .int .i64 e ∧ Rl N wr wo.heap.size M e (nlQ q n) ∧ Below wo.heap.size wo wr ∧ wo.heap.size < wr.heap.size) (fun j _ => M - (intOf j).toNat)
    case atStart => exact ⟨0, Nat.zero_le _, rfl, Rl.made N wo M _, bel1 wo _, by simp⟩
    case round =>
     obtain ⟨e, he, rfl, hrl, hbel, hsz⟩ := hrel
     obtain ⟨wq, rfl⟩ : ∃ x : World, x = wr := ⟨_, rfl⟩
     have HRow := Lib.hid hrl
     have HB := Lib.hid hbel
     have hs0 : wo.heap.size ≤ wq.heap.size := by omega
     clear hrl hbel hmk
     by_cases heM : e < M
     ·go_wp2_with fail
      go_loopw [20, 147] (fun sm j wp => ∃ (r : Nat) (ra : Option Addr) (c l S : Nat), r ≤ R ∧ j = .int .i64 r ∧ (sN (fun w => nuW (nuQ q) (faQ q) n w e) r) = S ∧ nlen S = l ∧ sm = .slice ra l c ∧ Nt N wp ra l c S ∧ Below wq.heap.size wq wp) (fun _ j _ => R - (intOf j).toNat)
      case atStart => exact ⟨0, none, 0, 0, 0, Nat.zero_le _, rfl, rfl, nlen_zero, rfl, Nt.zero _ _, Below.refl _ _⟩
      case round =>
       obtain ⟨r, ra, c, l, S, hrR, rfl, hS, hl, rfl, hnt, hbel⟩ := hrel
       obtain ⟨wp, rfl⟩ : ∃ x : World, x = wr := ⟨_, rfl⟩
       have HS := Lib.hid hS
       have HLL := Lib.hid hl
       have hl5 : l ≤ 50000001 := by rw [← hl, ← hS]; exact nlen_sN _ _ _ (fun i _ => HWL.out i e) (by omega)
       have HNS := Lib.hid hnt
       have HB1 := Lib.hid hbel
       have hs1 : wq.heap.size ≤ wp.heap.size := hbel.size
       have hN : N ≤ wp.heap.size := by omega
       have HB2 := Lib.hid (HB.out.trans (hbel.mono hs0))
       clear hS hl hnt hbel
       by_cases hr : r < R
       ·obtain ⟨gw, gr⟩ := HTT.out.2 r hr
        have gw2 := cell_mono gw HB2.out
        obtain ⟨va, vc, gv, hv⟩ := gr.2 e heM
        have gv2 := cell_mono gv HB2.out
        have HV := Lib.hid (hv.below HB2.out)
        have hvl := HWL.out r e
        clear gw gr gv hv
        go_wp2_with fail
        refine (add_any (N := N) _ _ _ _ S _ _ (nuW (nuQ q) (faQ q) n r e) _ hN HNS.out HV.out (by omega) (by omega)).mono ?_
        rintro e' wc ⟨r1, c1, rfl, hn, hb⟩
        have Hn := Lib.hid hn
        have Hb := Lib.hid hb
        clear hn hb
        go_wp2_with fail
        go_roundw
        case rel => exact ⟨r + 1, r1, c1, _, S + nuW (nuQ q) (faQ q) n r e, by omega, by go_num, by rw [← HS.out]; rfl, rfl, rfl, Hn.out, HB1.out.trans (Hb.out.mono hs1)⟩
        case measure => simp [intOf]; omega
       ·have e1 : R = r := by omega
        have HRT := Lib.hid (show Rt N wp false ra l c ra0 (nlen (prN (deQ q) n)) ca0 (nlQ q n e) 50000001 from ⟨by omega, by omega, by omega, S, prN (deQ q) n, HNS.out, HAL.out.below HB2.out, by rw [← nl_frq q n e HX.out, ← HS.out, ← e1, ← HRR.out]; rfl⟩)
        clear e1
        go_wp2_with fail
        refine (rnorm_any (N := N) false _ _ _ _ _ _ 50000001 (nlQ q n e) _ hN HRT.out (by omega)).mono ?_
        rintro e' wc ⟨rx, cx, rx2, cx2, rfl, hn, hn', hb⟩
        have Hn := Lib.hid hn
        have Hn' := Lib.hid hn'
        have Hb := Lib.hid (HB1.out.trans (hb.mono hs1))
        clear hn hn' hb
        have HRow2 := Lib.hid (HRow.out.below Hb.out)
        obtain ⟨v0, q0⟩ := HRow2.out.1.cell (o := e * 3) (by omega)
        obtain ⟨v1, q1⟩ := HRow2.out.1.cell (o := e * 3 + 1) (by omega)
        obtain ⟨v2, q2⟩ := HRow2.out.1.cell (o := e * 3 + 2) (by omega)
        have fz := HRow2.out.1.frozen
        go_wp2_with fail
        go_roundw
        case rel => exact ⟨e + 1, by omega, by go_num, HRow2.out.step (by omega) (by omega) Hn.out Hn'.out, (((HB.out.trans (Hb.out.mono hs0)).setCell (Nat.le_refl _) _).setCell (Nat.le_refl _) _).setCell (Nat.le_refl _) _, by have := Hb.out.size; simp [World.setCell]; omega⟩
        case measure => simp [intOf]; omega
     ·have e1 : e = M := by omega
      subst e1
      go_wp2_with fail
      go_ret2
      exact ⟨_, rfl, by omega, HRow.out.lt, HRow.out, HBw.out.trans (HB.out.mono hsw)⟩
end Go.Proofs.YtjobopafcgnljaaGreat
