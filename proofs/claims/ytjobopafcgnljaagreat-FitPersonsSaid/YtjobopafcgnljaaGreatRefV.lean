import Derived.Test.YtjobopafcgnljaaGreatAl
import Derived.Test.YtjobopafcgnljaaGreatJoQ
import Derived.Test.YtjobopafcgnljaaGreatJoR1
namespace Go.Proofs.YtjobopafcgnljaaGreat
open Go.RowKit
theorem xneg_mk (z z1 : Int) (d : Nat) (q p : Rat) (h1 : mkRat z1 d = q) (hp : -q = p) (hz : -z1 = z) : mkRat (zI (decide (z < 0)) z.natAbs) d = p := by
 rw [zI_norm, ← hz, ← hp, ← h1, Rat.neg_mkRat]
set_option maxHeartbeats 4000000 in
theorem xrneg_any {N : Nat} (s : Bool) (a d : Option Addr) (na ca nd cd L : Nat) (q : Rat) (w : World) (hN : N ≤ w.heap.size) (h : Rt N w s a na ca d nd cd q L) (hL : L ≤ 68719476736) (p : Rat) (hp : -q = p) :
  Calls Tryz.prog 90 #[.agg #[.bool s, .slice a na ca, .slice d nd cd]] w (RatPost N w p) := by
 obtain ⟨l0, l1, l2, mn, md, ha, hd, hq⟩ := h
 obtain ⟨z1, hz1⟩ : ∃ z, tz s mn md = z := ⟨_, rfl⟩
 have e1 : mkRat z1 (dl md) = q := by rw [← hz1, tz_dl, hq]
 have lz1 : nlen z1.natAbs ≤ L := by rw [← hz1]; exact tz_len (nlen_bound ha _ l1)
 have ld1 : nlen (dl md) ≤ L := dl_len (nlen_bound hd _ l2) l0
 have p1 := dl_pos md
 obtain ⟨D1, hD1⟩ : ∃ D, dl md = D := ⟨_, rfl⟩
 rw [hD1] at ld1 p1 e1
 obtain ⟨z, hz⟩ : ∃ z, -z1 = z := ⟨_, rfl⟩
 have HZ := Lib.hid (show -zI (decide (z1 < 0)) z1.natAbs = z by rw [zI_norm]; exact hz)
 have lz : nlen z.natAbs ≤ L := by rw [← hz, Int.natAbs_neg]; exact lz1
 have HQ := Lib.hid (xneg_mk z z1 D1 q p e1 hp hz)
 have HZ1 := Lib.hid hz1
 have HD1 := Lib.hid hD1
 have HA := Lib.hid ha
 have HD := Lib.hid hd
 clear ha hd hq hz1 e1 hp hz hD1
 have hN0 := hN
 have HB := Lib.hid (Below.refl w.heap.size w)
 go_enter Tryz.func90, Tryz.ntmps90
 go_wp2_with fail
 refine region_name fun W0 hW => ?_
 have hs_W0 : w.heap.size ≤ W0.heap.size := by rw [← hW]; exact OmT
 have HK_W0 := Lib.hid (show Kp N w W0 by rw [← hW]; exact KpA)
 have k_A_0 : W0.cell? ⟨w.heap.size, 0, none⟩ = some (.bool s) := by rw [← hW]; exact CeA
 have k_A_1 : W0.cell? ⟨w.heap.size, 1, none⟩ = some (.slice a na ca) := by rw [← hW]; exact CeA
 have k_A_2 : W0.cell? ⟨w.heap.size, 2, none⟩ = some (.slice d nd cd) := by rw [← hW]; exact CeA
 have f_A : ∀ o, W0.frozen? ⟨w.heap.size, o, none⟩ = false := by intro o; rw [← hW]; exact CeA
 have HX_A := Lib.hid (show Bn W0 (w.heap.size) by rw [← hW]; exact KpA)
 have k_R_0 : W0.cell? ⟨w.heap.size + 1, 0, none⟩ = some (.bool false) := by rw [← hW]; exact CeA
 have k_R_1 : W0.cell? ⟨w.heap.size + 1, 1, none⟩ = some (.slice none 0 0) := by rw [← hW]; exact CeA
 have k_R_2 : W0.cell? ⟨w.heap.size + 1, 2, none⟩ = some (.slice none 0 0) := by rw [← hW]; exact CeA
 have f_R : ∀ o, W0.frozen? ⟨w.heap.size + 1, o, none⟩ = false := by intro o; rw [← hW]; exact CeA
 have HX_R := Lib.hid (show Bn W0 (w.heap.size + 1) by rw [← hW]; exact KpA)
 replace HA := Lib.hid (HA.out.keep HK_W0.out)
 replace HD := Lib.hid (HD.out.keep HK_W0.out)
 replace HB := Lib.hid (show Below w.heap.size w W0 by rw [← hW]; exact BlA)
 replace hN : N ≤ W0.heap.size := by rw [← hW]; exact OmT
 have hs0 : w.heap.size ≤ W0.heap.size := by rw [← hW]; exact OmT
 have hl_A : w.heap.size < W0.heap.size := by rw [← hW]; exact OmT
 have hl_R : w.heap.size + 1 < W0.heap.size := by rw [← hW]; exact OmT
 clear hW HK_W0
 go_region_held3 (fun w' => w'.cell? ⟨w.heap.size, 0, none⟩ = some (.bool s) ∧ w'.cell? ⟨w.heap.size, 1, none⟩ = some (.slice a na ca) ∧ w'.cell? ⟨w.heap.size, 2, none⟩ = some (.slice d nd cd))
  (first | (go_keep; done) | ((try dsimp only); (repeat' apply And.intro) <;> (first | (go_keep; done) | (exact cell_keep_alloc_drew (by first | omega | (simp; omega)) (by first | assumption | go_simp)) | (exact cell_keep_alloc (by first | omega | (simp; omega)) (by first | assumption | go_simp)) | (rw [cell_set2 _ _ _ _ _ _ _ _ (by omega)]; assumption) | (rw [cell_set3 _ _ _ _ _ _ _ _ _ _ (by omega)]; assumption))))
  (first
   | (go_at_call 60; refine (xtop_any (N := N) _ _ _ _ _ mn _ _ md _ (by exact hN) (by exact HA.out) (by exact HD.out) (by omega) (by omega) z1 HZ1.out).mono ?_; rintro e wa ⟨ra1, ca1, rfl, hn, hb⟩; replace hb : Below W0.heap.size W0 wa := (by first | exact hb | exact bel_of_drew hb); have hs_wa : W0.heap.size ≤ wa.heap.size := hb.size; replace k_A_0 : wa.cell? ⟨w.heap.size, 0, none⟩ = some (.bool s) := (hb.cell (p := ⟨w.heap.size, 0, none⟩) hl_A).trans k_A_0; replace k_A_1 : wa.cell? ⟨w.heap.size, 1, none⟩ = some (.slice a na ca) := (hb.cell (p := ⟨w.heap.size, 1, none⟩) hl_A).trans k_A_1; replace k_A_2 : wa.cell? ⟨w.heap.size, 2, none⟩ = some (.slice d nd cd) := (hb.cell (p := ⟨w.heap.size, 2, none⟩) hl_A).trans k_A_2; replace f_A : ∀ o, wa.frozen? ⟨w.heap.size, o, none⟩ = false := fun o => (hb.frozen (p := ⟨w.heap.size, o, none⟩) hl_A).trans (f_A o); replace HX_A := Lib.hid (HX_A.out.below hb); replace k_R_0 : wa.cell? ⟨w.heap.size + 1, 0, none⟩ = some (.bool false) := (hb.cell (p := ⟨w.heap.size + 1, 0, none⟩) hl_R).trans k_R_0; replace k_R_1 : wa.cell? ⟨w.heap.size + 1, 1, none⟩ = some (.slice none 0 0) := (hb.cell (p := ⟨w.heap.size + 1, 1, none⟩) hl_R).trans k_R_1; replace k_R_2 : wa.cell? ⟨w.heap.size + 1, 2, none⟩ = some (.slice none 0 0) := (hb.cell (p := ⟨w.heap.size + 1, 2, none⟩) hl_R).trans k_R_2; replace f_R : ∀ o, wa.frozen? ⟨w.heap.size + 1, o, none⟩ = false := fun o => (hb.frozen (p := ⟨w.heap.size + 1, o, none⟩) hl_R).trans (f_R o); replace HX_R := Lib.hid (HX_R.out.below hb); replace HA := Lib.hid (HA.out.below hb); replace HD := Lib.hid (HD.out.below hb); replace HB := Lib.hid (HB.out.trans (hb.mono hs0)); replace hN : N ≤ wa.heap.size := Nat.le_trans hN hb.size; replace hs0 : w.heap.size ≤ wa.heap.size := Nat.le_trans hs0 hb.size; replace hl_A : w.heap.size < wa.heap.size := Nat.lt_of_lt_of_le hl_A hb.size; replace hl_R : w.heap.size + 1 < wa.heap.size := Nat.lt_of_lt_of_le hl_R hb.size; clear hb; have HT := Lib.hid hn; clear hn; skip)
   | (go_at_call 83; refine (xineg_any (N := N) _ _ _ _ z1.natAbs _ (by exact hN) (by exact HT.out) (by omega) z HZ.out).mono ?_; rintro e wb ⟨rb1, cb1, rfl, hn, hb⟩; replace hb : Below wa.heap.size wa wb := (by first | exact hb | exact bel_of_drew hb); have hs_wb : wa.heap.size ≤ wb.heap.size := hb.size; replace k_A_0 : wb.cell? ⟨w.heap.size, 0, none⟩ = some (.bool s) := (hb.cell (p := ⟨w.heap.size, 0, none⟩) hl_A).trans k_A_0; replace k_A_1 : wb.cell? ⟨w.heap.size, 1, none⟩ = some (.slice a na ca) := (hb.cell (p := ⟨w.heap.size, 1, none⟩) hl_A).trans k_A_1; replace k_A_2 : wb.cell? ⟨w.heap.size, 2, none⟩ = some (.slice d nd cd) := (hb.cell (p := ⟨w.heap.size, 2, none⟩) hl_A).trans k_A_2; replace f_A : ∀ o, wb.frozen? ⟨w.heap.size, o, none⟩ = false := fun o => (hb.frozen (p := ⟨w.heap.size, o, none⟩) hl_A).trans (f_A o); replace HX_A := Lib.hid (HX_A.out.below hb); replace k_R_0 : wb.cell? ⟨w.heap.size + 1, 0, none⟩ = some (.bool false) := (hb.cell (p := ⟨w.heap.size + 1, 0, none⟩) hl_R).trans k_R_0; replace k_R_1 : wb.cell? ⟨w.heap.size + 1, 1, none⟩ = some (.slice none 0 0) := (hb.cell (p := ⟨w.heap.size + 1, 1, none⟩) hl_R).trans k_R_1; replace k_R_2 : wb.cell? ⟨w.heap.size + 1, 2, none⟩ = some (.slice none 0 0) := (hb.cell (p := ⟨w.heap.size + 1, 2, none⟩) hl_R).trans k_R_2; replace f_R : ∀ o, wb.frozen? ⟨w.heap.size + 1, o, none⟩ = false := fun o => (hb.frozen (p := ⟨w.heap.size + 1, o, none⟩) hl_R).trans (f_R o); replace HX_R := Lib.hid (HX_R.out.below hb); replace HA := Lib.hid (HA.out.below hb); replace HD := Lib.hid (HD.out.below hb); replace HT := Lib.hid (HT.out.below hb); replace HB := Lib.hid (HB.out.trans (hb.mono hs0)); replace hN : N ≤ wb.heap.size := Nat.le_trans hN hb.size; replace hs0 : w.heap.size ≤ wb.heap.size := Nat.le_trans hs0 hb.size; replace hl_A : w.heap.size < wb.heap.size := Nat.lt_of_lt_of_le hl_A hb.size; replace hl_R : w.heap.size + 1 < wb.heap.size := Nat.lt_of_lt_of_le hl_R hb.size; clear hb; have HG := Lib.hid hn; clear hn; skip)
   | (go_at_call 62; refine (xlow_any (N := N) _ _ _ _ _ mn _ _ md _ (by exact hN) (by exact HA.out) (by exact HD.out) (by omega) (by omega)).mono ?_; (rw [HD1.out]); rintro e wc ⟨rd1, cd1, rfl, hn, hb⟩; replace hb : Below wb.heap.size wb wc := (by first | exact hb | exact bel_of_drew hb); have hs_wc : wb.heap.size ≤ wc.heap.size := hb.size; replace k_A_0 : wc.cell? ⟨w.heap.size, 0, none⟩ = some (.bool s) := (hb.cell (p := ⟨w.heap.size, 0, none⟩) hl_A).trans k_A_0; replace k_A_1 : wc.cell? ⟨w.heap.size, 1, none⟩ = some (.slice a na ca) := (hb.cell (p := ⟨w.heap.size, 1, none⟩) hl_A).trans k_A_1; replace k_A_2 : wc.cell? ⟨w.heap.size, 2, none⟩ = some (.slice d nd cd) := (hb.cell (p := ⟨w.heap.size, 2, none⟩) hl_A).trans k_A_2; replace f_A : ∀ o, wc.frozen? ⟨w.heap.size, o, none⟩ = false := fun o => (hb.frozen (p := ⟨w.heap.size, o, none⟩) hl_A).trans (f_A o); replace HX_A := Lib.hid (HX_A.out.below hb); replace k_R_0 : wc.cell? ⟨w.heap.size + 1, 0, none⟩ = some (.bool false) := (hb.cell (p := ⟨w.heap.size + 1, 0, none⟩) hl_R).trans k_R_0; replace k_R_1 : wc.cell? ⟨w.heap.size + 1, 1, none⟩ = some (.slice none 0 0) := (hb.cell (p := ⟨w.heap.size + 1, 1, none⟩) hl_R).trans k_R_1; replace k_R_2 : wc.cell? ⟨w.heap.size + 1, 2, none⟩ = some (.slice none 0 0) := (hb.cell (p := ⟨w.heap.size + 1, 2, none⟩) hl_R).trans k_R_2; replace f_R : ∀ o, wc.frozen? ⟨w.heap.size + 1, o, none⟩ = false := fun o => (hb.frozen (p := ⟨w.heap.size + 1, o, none⟩) hl_R).trans (f_R o); replace HX_R := Lib.hid (HX_R.out.below hb); replace HA := Lib.hid (HA.out.below hb); replace HD := Lib.hid (HD.out.below hb); replace HT := Lib.hid (HT.out.below hb); replace HG := Lib.hid (HG.out.below hb); replace HB := Lib.hid (HB.out.trans (hb.mono hs0)); replace hN : N ≤ wc.heap.size := Nat.le_trans hN hb.size; replace hs0 : w.heap.size ≤ wc.heap.size := Nat.le_trans hs0 hb.size; replace hl_A : w.heap.size < wc.heap.size := Nat.lt_of_lt_of_le hl_A hb.size; replace hl_R : w.heap.size + 1 < wc.heap.size := Nat.lt_of_lt_of_le hl_R hb.size; clear hb; have HW := Lib.hid hn; clear hn; skip)
   | (go_at_call 84; refine (xreduce_any (N := N) _ _ _ _ _ z.natAbs _ _ D1 _ (by exact hN) (by exact HG.out) (by exact HW.out) (by omega) (by omega) p1 p HQ.out).mono ?_; rintro e wd ⟨rx, cx, rx2, cx2, rfl, hn, hn', hb⟩; replace hb : Below wc.heap.size wc wd := (by first | exact hb | exact bel_of_drew hb); have hs_wd : wc.heap.size ≤ wd.heap.size := hb.size; replace k_A_0 : wd.cell? ⟨w.heap.size, 0, none⟩ = some (.bool s) := (hb.cell (p := ⟨w.heap.size, 0, none⟩) hl_A).trans k_A_0; replace k_A_1 : wd.cell? ⟨w.heap.size, 1, none⟩ = some (.slice a na ca) := (hb.cell (p := ⟨w.heap.size, 1, none⟩) hl_A).trans k_A_1; replace k_A_2 : wd.cell? ⟨w.heap.size, 2, none⟩ = some (.slice d nd cd) := (hb.cell (p := ⟨w.heap.size, 2, none⟩) hl_A).trans k_A_2; replace f_A : ∀ o, wd.frozen? ⟨w.heap.size, o, none⟩ = false := fun o => (hb.frozen (p := ⟨w.heap.size, o, none⟩) hl_A).trans (f_A o); replace HX_A := Lib.hid (HX_A.out.below hb); replace k_R_0 : wd.cell? ⟨w.heap.size + 1, 0, none⟩ = some (.bool false) := (hb.cell (p := ⟨w.heap.size + 1, 0, none⟩) hl_R).trans k_R_0; replace k_R_1 : wd.cell? ⟨w.heap.size + 1, 1, none⟩ = some (.slice none 0 0) := (hb.cell (p := ⟨w.heap.size + 1, 1, none⟩) hl_R).trans k_R_1; replace k_R_2 : wd.cell? ⟨w.heap.size + 1, 2, none⟩ = some (.slice none 0 0) := (hb.cell (p := ⟨w.heap.size + 1, 2, none⟩) hl_R).trans k_R_2; replace f_R : ∀ o, wd.frozen? ⟨w.heap.size + 1, o, none⟩ = false := fun o => (hb.frozen (p := ⟨w.heap.size + 1, o, none⟩) hl_R).trans (f_R o); replace HX_R := Lib.hid (HX_R.out.below hb); replace HA := Lib.hid (HA.out.below hb); replace HD := Lib.hid (HD.out.below hb); replace HT := Lib.hid (HT.out.below hb); replace HG := Lib.hid (HG.out.below hb); replace HW := Lib.hid (HW.out.below hb); replace HB := Lib.hid (HB.out.trans (hb.mono hs0)); replace hN : N ≤ wd.heap.size := Nat.le_trans hN hb.size; replace hs0 : w.heap.size ≤ wd.heap.size := Nat.le_trans hs0 hb.size; replace hl_A : w.heap.size < wd.heap.size := Nat.lt_of_lt_of_le hl_A hb.size; replace hl_R : w.heap.size + 1 < wd.heap.size := Nat.lt_of_lt_of_le hl_R hb.size; clear hb; have HX1 := Lib.hid hn; clear hn; have HX2 := Lib.hid hn'; clear hn'; skip))
 go_wp2_with fail
 refine bodyPost_ret (v := .agg #[.bool (decide ((p).num < 0)), .slice rx (nlen (p).num.natAbs) cx, .slice rx2 (nlen (p).den) cx2]) (by simp [results, Tryz.results90, go_sem, k_R_0, k_R_1, k_R_2]) rfl ⟨_, _, _, _, rfl, HX1.out.keep ?_, HX2.out.keep ?_, ?_⟩
 all_goals exact KBA
def AddJ1 (N : Nat) (s s' : Bool) (a d a' d' : Option Addr) (na ca nd cd na' ca' nd' cd' : Nat) (zz1 x1 E2 : Int) (D2 : Nat) (W : World) (z0 : Act) (L : Nat → Bool) (z1 : Act) (w : World) : Prop :=
 ∃ u7 u8 u9 u10 u11 u12 u5, z1 = (((((((z0.put (some 7) u7).put (some 8) u8).put (some 9) u9).put (some 10) u10).put (some 11) u11).put (some 12) u12).put (some 5) u5) ∧
  ((L 7 = false ∧ Since W w ∧ (L 0 = true → u7 = .agg #[.bool s, .slice a na ca, .slice d nd cd]) ∧ (L 1 = true → IsInt N zz1 u8 w) ∧ (L 2 = true → u9 = .agg #[.bool s', .slice a' na' ca', .slice d' nd' cd']) ∧ (L 3 = true → IsNat N D2 u10 w) ∧ (L 4 = true → IsInt N E2 u11 w) ∧ (L 5 = true → IsInt N x1 u12 w) ∧ (L 6 = true → IsBox W.heap.size 27 2 u5 w)) ∨
  (L 7 = true ∧ (∀ j, j < 7 → L j = true) ∧ CutInt N W x1 u5 w))
def AddJ2 (N : Nat) (s s' : Bool) (a d a' d' : Option Addr) (na ca nd cd na' ca' nd' cd' : Nat) (zz2 x2 E1 : Int) (D1 : Nat) (W : World) (z0 : Act) (L : Nat → Bool) (z1 : Act) (w : World) : Prop :=
 ∃ u13 u14 u15 u16 u17 u18 u6, z1 = (((((((z0.put (some 13) u13).put (some 14) u14).put (some 15) u15).put (some 16) u16).put (some 17) u17).put (some 18) u18).put (some 6) u6) ∧
  ((L 7 = false ∧ Since W w ∧ (L 0 = true → u13 = .agg #[.bool s', .slice a' na' ca', .slice d' nd' cd']) ∧ (L 1 = true → IsInt N zz2 u14 w) ∧ (L 2 = true → u15 = .agg #[.bool s, .slice a na ca, .slice d nd cd]) ∧ (L 3 = true → IsNat N D1 u16 w) ∧ (L 4 = true → IsInt N E1 u17 w) ∧ (L 5 = true → IsInt N x2 u18 w) ∧ (L 6 = true → IsBox W.heap.size 27 2 u6 w)) ∨
  (L 7 = true ∧ (∀ j, j < 7 → L j = true) ∧ CutInt N W x2 u6 w))
set_option maxHeartbeats 16000000 in
theorem xradd_any {N : Nat} (s s' : Bool) (a d a' d' : Option Addr) (na ca nd cd na' ca' nd' cd' L L' : Nat) (q q' : Rat) (w : World) (hN : N ≤ w.heap.size) (h : Rt N w s a na ca d nd cd q L) (h' : Rt N w s' a' na' ca' d' nd' cd' q' L') (hL : L ≤ 68719476736) (hL' : L' ≤ 68719476736) (p : Rat) (hp : q + q' = p) :
  Calls Tryz.prog 66 #[.agg #[.bool s, .slice a na ca, .slice d nd cd], .agg #[.bool s', .slice a' na' ca', .slice d' nd' cd']] w (RatPost N w p) := by
 obtain ⟨l0, l1, l2, mn, md, ha, hd, hq⟩ := h
 obtain ⟨l0', l1', l2', mn', md', ha', hd', hq'⟩ := h'
 obtain ⟨zz1, hz1⟩ : ∃ z, tz s mn md = z := ⟨_, rfl⟩
 obtain ⟨zz2, hz2⟩ : ∃ z, tz s' mn' md' = z := ⟨_, rfl⟩
 have e1 : mkRat zz1 (dl md) = q := by rw [← hz1, tz_dl, hq]
 have e2 : mkRat zz2 (dl md') = q' := by rw [← hz2, tz_dl, hq']
 have lz1 : nlen zz1.natAbs ≤ L := by rw [← hz1]; exact tz_len (nlen_bound ha _ l1)
 have lz2 : nlen zz2.natAbs ≤ L' := by rw [← hz2]; exact tz_len (nlen_bound ha' _ l1')
 have ld1 : nlen (dl md) ≤ L := dl_len (nlen_bound hd _ l2) l0
 have ld2 : nlen (dl md') ≤ L' := dl_len (nlen_bound hd' _ l2') l0'
 have p1 := dl_pos md
 have p2 := dl_pos md'
 obtain ⟨D1, hD1⟩ : ∃ D, dl md = D := ⟨_, rfl⟩
 obtain ⟨D2, hD2⟩ : ∃ D, dl md' = D := ⟨_, rfl⟩
 rw [hD1] at ld1 p1 e1
 rw [hD2] at ld2 p2 e2
 obtain ⟨x1, hx1⟩ : ∃ x, zz1 * (D2 : Int) = x := ⟨_, rfl⟩
 obtain ⟨x2, hx2⟩ : ∃ x, zz2 * (D1 : Int) = x := ⟨_, rfl⟩
 have lx1 : nlen x1.natAbs ≤ 137438953472 := by rw [← hx1, Int.natAbs_mul, Int.natAbs_natCast]; have := nlen_mul zz1.natAbs D2; omega
 have lx2 : nlen x2.natAbs ≤ 137438953472 := by rw [← hx2, Int.natAbs_mul, Int.natAbs_natCast]; have := nlen_mul zz2.natAbs D1; omega
 obtain ⟨x, hx⟩ : ∃ x, zI (decide (x1 < 0)) x1.natAbs + zI (decide (x2 < 0)) x2.natAbs = x := ⟨_, rfl⟩
 have HXS := Lib.hid hx
 have lx := nlen_iadd hx
 have HQ := Lib.hid (add_mk zz1 zz2 x1 x2 x D1 D2 p1 p2 q q' p e1 e2 hp hx1 hx2 hx)
 have ldd := nlen_mul D1 D2
 have pp := Nat.mul_pos p1 p2
 obtain ⟨E1, hE1⟩ : ∃ E : Int, (D1 : Int) = E := ⟨_, rfl⟩
 obtain ⟨E2, hE2⟩ : ∃ E : Int, (D2 : Int) = E := ⟨_, rfl⟩
 have Hx1 := Lib.hid (show zI (decide (zz1 < 0)) zz1.natAbs * zI (decide (E2 < 0)) E2.natAbs = x1 by rw [zI_norm, zI_norm, ← hE2]; exact hx1)
 have Hx2 := Lib.hid (show zI (decide (zz2 < 0)) zz2.natAbs * zI (decide (E1 < 0)) E1.natAbs = x2 by rw [zI_norm, zI_norm, ← hE1]; exact hx2)
 have ln1 : nlen E1.natAbs ≤ L := by rw [← hE1, Int.natAbs_natCast]; exact ld1
 have ln2 : nlen E2.natAbs ≤ L' := by rw [← hE2, Int.natAbs_natCast]; exact ld2
 have HE1 := Lib.hid ((zI_false D1).trans hE1)
 have HE2 := Lib.hid ((zI_false D2).trans hE2)
 have HZ1 := Lib.hid hz1
 have HZ2 := Lib.hid hz2
 have HD1 := Lib.hid hD1
 have HD2 := Lib.hid hD2
 obtain ⟨W, hW⟩ : ∃ W, (((w.alloc (.cells #[.bool s, .slice a na ca, .slice d nd cd] 29)).alloc (.cells #[.bool s', .slice a' na' ca', .slice d' nd' cd'] 29)).alloc (.cells #[.bool false, .slice none 0 0, .slice none 0 0] 29)) = W := ⟨_, rfl⟩
 have hWs : W.heap.size = w.heap.size + 3 := by rw [← hW]; simp
 have hl_A : w.heap.size < W.heap.size := by omega
 have k_A_0 : W.cell? ⟨w.heap.size, 0, none⟩ = some (.bool s) := by rw [← hW]; clear hW; go_simp
 have k_A_1 : W.cell? ⟨w.heap.size, 1, none⟩ = some (.slice a na ca) := by rw [← hW]; clear hW; go_simp
 have k_A_2 : W.cell? ⟨w.heap.size, 2, none⟩ = some (.slice d nd cd) := by rw [← hW]; clear hW; go_simp
 have f_A : ∀ o, W.frozen? ⟨w.heap.size, o, none⟩ = false := by intro o; rw [← hW]; clear hW; go_simp
 have HX_A := Lib.hid (show Bn W (w.heap.size) by rw [← hW]; exact KpA)
 have hl_C : w.heap.size + 1 < W.heap.size := by omega
 have k_C_0 : W.cell? ⟨w.heap.size + 1, 0, none⟩ = some (.bool s') := by rw [← hW]; clear hW; go_simp
 have k_C_1 : W.cell? ⟨w.heap.size + 1, 1, none⟩ = some (.slice a' na' ca') := by rw [← hW]; clear hW; go_simp
 have k_C_2 : W.cell? ⟨w.heap.size + 1, 2, none⟩ = some (.slice d' nd' cd') := by rw [← hW]; clear hW; go_simp
 have f_C : ∀ o, W.frozen? ⟨w.heap.size + 1, o, none⟩ = false := by intro o; rw [← hW]; clear hW; go_simp
 have HX_C := Lib.hid (show Bn W (w.heap.size + 1) by rw [← hW]; exact KpA)
 have hl_R : w.heap.size + 2 < W.heap.size := by omega
 have k_R_0 : W.cell? ⟨w.heap.size + 2, 0, none⟩ = some (.bool false) := by rw [← hW]; clear hW; go_simp
 have k_R_1 : W.cell? ⟨w.heap.size + 2, 1, none⟩ = some (.slice none 0 0) := by rw [← hW]; clear hW; go_simp
 have k_R_2 : W.cell? ⟨w.heap.size + 2, 2, none⟩ = some (.slice none 0 0) := by rw [← hW]; clear hW; go_simp
 have f_R : ∀ o, W.frozen? ⟨w.heap.size + 2, o, none⟩ = false := by intro o; rw [← hW]; clear hW; go_simp
 have HX_R := Lib.hid (show Bn W (w.heap.size + 2) by rw [← hW]; exact KpA)
 have HA := Lib.hid (show Nt N W a na ca mn by rw [← hW]; exact (((ha.alloc (.cells #[.bool s, .slice a na ca, .slice d nd cd] 29)).alloc (.cells #[.bool s', .slice a' na' ca', .slice d' nd' cd'] 29)).alloc (.cells #[.bool false, .slice none 0 0, .slice none 0 0] 29)))
 have HD := Lib.hid (show Nt N W d nd cd md by rw [← hW]; exact (((hd.alloc (.cells #[.bool s, .slice a na ca, .slice d nd cd] 29)).alloc (.cells #[.bool s', .slice a' na' ca', .slice d' nd' cd'] 29)).alloc (.cells #[.bool false, .slice none 0 0, .slice none 0 0] 29)))
 have HA' := Lib.hid (show Nt N W a' na' ca' mn' by rw [← hW]; exact (((ha'.alloc (.cells #[.bool s, .slice a na ca, .slice d nd cd] 29)).alloc (.cells #[.bool s', .slice a' na' ca', .slice d' nd' cd'] 29)).alloc (.cells #[.bool false, .slice none 0 0, .slice none 0 0] 29)))
 have HD' := Lib.hid (show Nt N W d' nd' cd' md' by rw [← hW]; exact (((hd'.alloc (.cells #[.bool s, .slice a na ca, .slice d nd cd] 29)).alloc (.cells #[.bool s', .slice a' na' ca', .slice d' nd' cd'] 29)).alloc (.cells #[.bool false, .slice none 0 0, .slice none 0 0] 29)))
 have HNW := Lib.hid (show N ≤ W.heap.size by omega)
 have HBW := Lib.hid (show Below w.heap.size w W by rw [← hW]; exact bel3 _ _ _ _)
 clear ha hd ha' hd' hq hq' hz1 hz2 e1 e2 hD1 hD2 hE1 hE2 hx1 hx2 hx p1 p2 hp
 go_enter Tryz.func66, Tryz.ntmps66
 go_upto_region 1 with fail
 try rw [hW]
 clear hW
 go_cut [5] (fun s5 wx => CutInt N W x1 s5 wx)
 case first =>
  refine region_inv2 (by kernel_rfl) (AddJ1 N s s' a d a' d' na ca nd cd na' ca' nd' cd' zz1 x1 E2 D2 (W)) ?_ ?_ ?_ ?_
  ·exact ⟨undef, undef, undef, undef, undef, undef, undef, by simp only [Act.put, aT, aZ, aS], .inl ⟨rfl, Since.drawn _, NoR⟩⟩
  ·exact acyc_spec (by kernel_rfl)
  ·intro Ls a0 wq i o ho hLi hafter hJ
   obtain ⟨u7, u8, u9, u10, u11, u12, u5, rfl, hJ | ⟨h10, hall, _⟩⟩ := hJ
   ·obtain ⟨hLl, hS, p0, p1, p2, p3, p4, p5, p6⟩ := hJ
    have P0 := Lib.hid p0; have P1 := Lib.hid p1; have P2 := Lib.hid p2; have P3 := Lib.hid p3; have P4 := Lib.hid p4; have P5 := Lib.hid p5; have P6 := Lib.hid p6; have HS := Lib.hid hS; clear hS p0 p1 p2 p3 p4 p5 p6
    have hi : i < 8 := (Array.getElem?_eq_some_iff.1 ho).1
    obtain rfl | rfl | rfl | rfl | rfl | rfl | rfl | rfl : i = 0 ∨ i = 1 ∨ i = 2 ∨ i = 3 ∨ i = 4 ∨ i = 5 ∨ i = 6 ∨ i = 7 := by omega
    ·simp only [gT, gZ, Option.some.injEq] at ho
     subst ho
     have c0 := (HS.out.1.cell (p := ⟨w.heap.size, 0, none⟩) (by show w.heap.size < W.heap.size; omega)).trans k_A_0
     have c1 := (HS.out.1.cell (p := ⟨w.heap.size, 1, none⟩) (by show w.heap.size < W.heap.size; omega)).trans k_A_1
     have c2 := (HS.out.1.cell (p := ⟨w.heap.size, 2, none⟩) (by show w.heap.size < W.heap.size; omega)).trans k_A_2
     clear hLi hafter
     simp only [Act.put, aT, aZ, aS]
     go_wp2_with fail
     exact ⟨.agg #[.bool s, .slice a na ca, .slice d nd cd], u8, u9, u10, u11, u12, u5, by simp only [Act.put, aT, aZ, aS], .inl ⟨by simpa using hLl, HS.out, (fun _ => rfl), PvR⟩⟩
    ·simp only [gT, gZ, gS, Option.some.injEq] at ho
     subst ho
     obtain rfl := P0.out (hafter ⟨0, .data⟩ (by simp) rfl)
     clear hLi hafter
     simp only [Act.put, aT, aZ, aS]
     go_wp2_with fail
     refine (xtop_any (N := N) _ _ _ _ _ mn _ _ md _ (Nat.le_trans HNW.out HS.out.2) (HA.out.below HS.out.1) (HD.out.below HS.out.1) (by omega) (by omega) zz1 HZ1.out).mono ?_
     rintro e wn ⟨r, c, rfl, hn, hb⟩
     have HN := Lib.hid hn
     have Hb := Lib.hid hb
     clear hn hb
     go_wp2_with fail
     exact ⟨.agg #[.bool s, .slice a na ca, .slice d nd cd], _, u9, u10, u11, u12, u5, by simp only [Act.put, aT, aZ, aS], .inl ⟨by simpa using hLl, HS.out.below Hb.out, PvA, (fun _ => ⟨r, c, rfl, HN.out⟩), PvA, (fun h => (P3.out (by simpa using h)).below Hb.out), (fun h => (P4.out (by simpa using h)).below Hb.out), (fun h => (P5.out (by simpa using h)).below Hb.out), (fun h => (P6.out (by simpa using h)).below Hb.out)⟩⟩
    ·simp only [gT, gZ, gS, Option.some.injEq] at ho
     subst ho
     have c0 := (HS.out.1.cell (p := ⟨w.heap.size + 1, 0, none⟩) (by show w.heap.size + 1 < W.heap.size; omega)).trans k_C_0
     have c1 := (HS.out.1.cell (p := ⟨w.heap.size + 1, 1, none⟩) (by show w.heap.size + 1 < W.heap.size; omega)).trans k_C_1
     have c2 := (HS.out.1.cell (p := ⟨w.heap.size + 1, 2, none⟩) (by show w.heap.size + 1 < W.heap.size; omega)).trans k_C_2
     clear hLi hafter
     simp only [Act.put, aT, aZ, aS]
     go_wp2_with fail
     exact ⟨u7, u8, .agg #[.bool s', .slice a' na' ca', .slice d' nd' cd'], u10, u11, u12, u5, by simp only [Act.put, aT, aZ, aS], .inl ⟨by simpa using hLl, HS.out, PvA, PvA, (fun _ => rfl), PvR⟩⟩
    ·simp only [gT, gZ, gS, Option.some.injEq] at ho
     subst ho
     obtain rfl := P2.out (hafter ⟨2, .data⟩ (by simp) rfl)
     clear hLi hafter
     simp only [Act.put, aT, aZ, aS]
     go_wp2_with fail
     refine (xlow_any (N := N) _ _ _ _ _ mn' _ _ md' _ (Nat.le_trans HNW.out HS.out.2) (HA'.out.below HS.out.1) (HD'.out.below HS.out.1) (by omega) (by omega)).mono ?_
     rw [HD2.out]
     rintro e wn ⟨r, c, rfl, hn, hb⟩
     have HN := Lib.hid hn
     have Hb := Lib.hid hb
     clear hn hb
     go_wp2_with fail
     exact ⟨u7, u8, .agg #[.bool s', .slice a' na' ca', .slice d' nd' cd'], _, u11, u12, u5, by simp only [Act.put, aT, aZ, aS], .inl ⟨by simpa using hLl, HS.out.below Hb.out, PvA, (fun h => (P1.out (by simpa using h)).below Hb.out), PvA, (fun _ => ⟨r, c, rfl, HN.out⟩), (fun h => (P4.out (by simpa using h)).below Hb.out), (fun h => (P5.out (by simpa using h)).below Hb.out), (fun h => (P6.out (by simpa using h)).below Hb.out)⟩⟩
    ·simp only [gT, gZ, gS, Option.some.injEq] at ho
     subst ho
     obtain ⟨r3, c3, rfl, hn3⟩ := P3.out (hafter ⟨3, .data⟩ (by simp) rfl)
     have HN3 := Lib.hid hn3
     clear hn3
     clear hLi hafter
     simp only [Act.put, aT, aZ, aS]
     go_wp2_with fail
     refine (xmake_z (N := N) false _ _ _ D2 _ (Nat.le_trans HNW.out HS.out.2) HN3.out (by omega) E2 HE2.out).mono ?_
     rintro e wn ⟨r, c, rfl, hn, hb⟩
     have HN := Lib.hid hn
     have Hb := Lib.hid hb
     clear hn hb
     go_wp2_with fail
     exact ⟨u7, u8, u9, _, _, u12, u5, by simp only [Act.put, aT, aZ, aS], .inl ⟨by simpa using hLl, HS.out.below Hb.out, PvA, (fun h => (P1.out (by simpa using h)).below Hb.out), PvA, (fun h => (P3.out (by simpa using h)).below Hb.out), (fun _ => ⟨r, c, rfl, HN.out⟩), (fun h => (P5.out (by simpa using h)).below Hb.out), (fun h => (P6.out (by simpa using h)).below Hb.out)⟩⟩
    ·simp only [gT, gZ, gS, Option.some.injEq] at ho
     subst ho
     obtain ⟨r1, c1, rfl, hn1⟩ := P1.out (hafter ⟨1, .data⟩ (by simp) rfl)
     have HN1 := Lib.hid hn1
     clear hn1
     obtain ⟨r4, c4, rfl, hn4⟩ := P4.out (hafter ⟨4, .data⟩ (by simp) rfl)
     have HN4 := Lib.hid hn4
     clear hn4
     clear hLi hafter
     simp only [Act.put, aT, aZ, aS]
     go_wp2_with fail
     refine (ximul_any (N := N) _ _ _ _ _ _ zz1.natAbs _ _ E2.natAbs _ (Nat.le_trans HNW.out HS.out.2) HN1.out HN4.out (by omega) (by omega) x1 Hx1.out).mono ?_
     rintro e wn ⟨r, c, rfl, hn, hb⟩
     have HN := Lib.hid hn
     have Hb := Lib.hid hb
     clear hn hb
     go_wp2_with fail
     exact ⟨u7, _, u9, u10, _, _, u5, by simp only [Act.put, aT, aZ, aS], .inl ⟨by simpa using hLl, HS.out.below Hb.out, PvA, (fun h => (P1.out (by simpa using h)).below Hb.out), PvA, (fun h => (P3.out (by simpa using h)).below Hb.out), (fun h => (P4.out (by simpa using h)).below Hb.out), (fun _ => ⟨r, c, rfl, HN.out⟩), (fun h => (P6.out (by simpa using h)).below Hb.out)⟩⟩
    ·simp only [gT, gZ, gS, Option.some.injEq] at ho
     subst ho
     clear hLi hafter
     simp only [Act.put, aT, aZ, aS]
     go_wp2_with fail
     exact ⟨u7, u8, u9, u10, u11, u12, _, by simp only [Act.put, aT, aZ, aS], .inl ⟨by simpa using hLl, HS.out.below (bel1 wq (.cells #[.bool false, .slice none 0 0] 27)), PvA, (fun h => (P1.out (by simpa using h)).below (bel1 wq (.cells #[.bool false, .slice none 0 0] 27))), PvA, (fun h => (P3.out (by simpa using h)).below (bel1 wq (.cells #[.bool false, .slice none 0 0] 27))), (fun h => (P4.out (by simpa using h)).below (bel1 wq (.cells #[.bool false, .slice none 0 0] 27))), (fun h => (P5.out (by simpa using h)).below (bel1 wq (.cells #[.bool false, .slice none 0 0] 27))), (fun _ => ⟨wq.heap.size, rfl, HS.out.2, Bk.new _ _ _⟩)⟩⟩
    ·simp only [gT, gZ, gS, Option.some.injEq] at ho
     subst ho
     have hall : ∀ j, j < 7 → Ls j = true := by
      intro j hj
      obtain rfl | rfl | rfl | rfl | rfl | rfl | rfl : j = 0 ∨ j = 1 ∨ j = 2 ∨ j = 3 ∨ j = 4 ∨ j = 5 ∨ j = 6 := by omega
      all_goals exact hafter ⟨_, .phase⟩ (by simp) rfl
     have HALL := Lib.hid hall
     clear hall
     obtain ⟨r5, c5, rfl, hn5⟩ := P5.out (hafter ⟨5, .data⟩ (by simp) rfl)
     have HN5 := Lib.hid hn5
     clear hn5
     obtain ⟨g, rfl, hg, hbk⟩ := P6.out (hafter ⟨6, .data⟩ (by simp) rfl)
     have f0 := hbk.frozen
     have HK := Lib.hid hbk
     obtain ⟨v0, hv0⟩ := hbk.cell (o := 0) (by omega)
     obtain ⟨v1, hv1⟩ := hbk.cell (o := 1) (by omega)
     clear hbk
     clear hLi hafter
     simp only [Act.put, aT, aZ, aS]
     go_wp2_with fail
     exact ⟨u7, u8, u9, u10, u11, .agg #[.bool (decide (x1 < 0)), .slice r5 (nlen x1.natAbs) c5], .pointer (some ⟨g, 0, none⟩), by simp only [Act.put, aT, aZ, aS], .inr ⟨by simp, fun j hj => by simp [HALL.out j hj], cutInt_of HNW.out hg HK.out HN5.out HS.out⟩⟩
   ·exfalso
    have hi : i < 8 := (Array.getElem?_eq_some_iff.1 ho).1
    rcases Nat.lt_or_ge i 7 with h | h
    ·rw [hall i h] at hLi; cases hLi
    ·obtain rfl : i = 7 := by omega
     rw [h10] at hLi; cases hLi
  ·intro Ls a0 wq hall hJ
   obtain ⟨u7, u8, u9, u10, u11, u12, u5, rfl, ⟨h10, _⟩ | ⟨_, _, hcut⟩⟩ := hJ
   ·rw [hall 7 (by decide)] at h10; cases h10
   ·have HC := Lib.hid hcut
    clear hcut
    simp only [Act.put, aT, aZ, aS]
    go_wp2_with fail
    go_meet
    exact HC.out
 case rest =>
  obtain ⟨W2, rfl⟩ : ∃ W2 : World, W2 = wc := ⟨_, rfl⟩
  obtain ⟨g1, ra, ca1, rfl, hg1, hk1, kg0, kg1, hn1, hs1⟩ := hcut
  have hgl := hk1.lt
  have HN1 := Lib.hid hn1
  have hsz1 := hs1.2
  have f_X := hk1.frozen
  have HX_X := Lib.hid (hk1.bx.bn (by decide))
  have hl_A' : w.heap.size < W2.heap.size := Nat.lt_of_lt_of_le hl_A hs1.1.size
  have k_A_0' : W2.cell? ⟨w.heap.size, 0, none⟩ = some (.bool s) := (hs1.1.cell (p := ⟨w.heap.size, 0, none⟩) hl_A).trans k_A_0
  have k_A_1' : W2.cell? ⟨w.heap.size, 1, none⟩ = some (.slice a na ca) := (hs1.1.cell (p := ⟨w.heap.size, 1, none⟩) hl_A).trans k_A_1
  have k_A_2' : W2.cell? ⟨w.heap.size, 2, none⟩ = some (.slice d nd cd) := (hs1.1.cell (p := ⟨w.heap.size, 2, none⟩) hl_A).trans k_A_2
  have f_A' : ∀ o, W2.frozen? ⟨w.heap.size, o, none⟩ = false := fun o => (hs1.1.frozen (p := ⟨w.heap.size, o, none⟩) hl_A).trans (f_A o)
  have HX_A' := Lib.hid (HX_A.out.below hs1.1)
  clear hl_A f_A HX_A k_A_0 k_A_1 k_A_2
  have hl_A := hl_A'
  have f_A := f_A'
  have HX_A := HX_A'
  have k_A_0 := k_A_0'
  have k_A_1 := k_A_1'
  have k_A_2 := k_A_2'
  clear hl_A' f_A' HX_A' k_A_0' k_A_1' k_A_2'
  have hl_C' : w.heap.size + 1 < W2.heap.size := Nat.lt_of_lt_of_le hl_C hs1.1.size
  have k_C_0' : W2.cell? ⟨w.heap.size + 1, 0, none⟩ = some (.bool s') := (hs1.1.cell (p := ⟨w.heap.size + 1, 0, none⟩) hl_C).trans k_C_0
  have k_C_1' : W2.cell? ⟨w.heap.size + 1, 1, none⟩ = some (.slice a' na' ca') := (hs1.1.cell (p := ⟨w.heap.size + 1, 1, none⟩) hl_C).trans k_C_1
  have k_C_2' : W2.cell? ⟨w.heap.size + 1, 2, none⟩ = some (.slice d' nd' cd') := (hs1.1.cell (p := ⟨w.heap.size + 1, 2, none⟩) hl_C).trans k_C_2
  have f_C' : ∀ o, W2.frozen? ⟨w.heap.size + 1, o, none⟩ = false := fun o => (hs1.1.frozen (p := ⟨w.heap.size + 1, o, none⟩) hl_C).trans (f_C o)
  have HX_C' := Lib.hid (HX_C.out.below hs1.1)
  clear hl_C f_C HX_C k_C_0 k_C_1 k_C_2
  have hl_C := hl_C'
  have f_C := f_C'
  have HX_C := HX_C'
  have k_C_0 := k_C_0'
  have k_C_1 := k_C_1'
  have k_C_2 := k_C_2'
  clear hl_C' f_C' HX_C' k_C_0' k_C_1' k_C_2'
  have hl_R' : w.heap.size + 2 < W2.heap.size := Nat.lt_of_lt_of_le hl_R hs1.1.size
  have k_R_0' : W2.cell? ⟨w.heap.size + 2, 0, none⟩ = some (.bool false) := (hs1.1.cell (p := ⟨w.heap.size + 2, 0, none⟩) hl_R).trans k_R_0
  have k_R_1' : W2.cell? ⟨w.heap.size + 2, 1, none⟩ = some (.slice none 0 0) := (hs1.1.cell (p := ⟨w.heap.size + 2, 1, none⟩) hl_R).trans k_R_1
  have k_R_2' : W2.cell? ⟨w.heap.size + 2, 2, none⟩ = some (.slice none 0 0) := (hs1.1.cell (p := ⟨w.heap.size + 2, 2, none⟩) hl_R).trans k_R_2
  have f_R' : ∀ o, W2.frozen? ⟨w.heap.size + 2, o, none⟩ = false := fun o => (hs1.1.frozen (p := ⟨w.heap.size + 2, o, none⟩) hl_R).trans (f_R o)
  have HX_R' := Lib.hid (HX_R.out.below hs1.1)
  clear hl_R f_R HX_R k_R_0 k_R_1 k_R_2
  have hl_R := hl_R'
  have f_R := f_R'
  have HX_R := HX_R'
  have k_R_0 := k_R_0'
  have k_R_1 := k_R_1'
  have k_R_2 := k_R_2'
  clear hl_R' f_R' HX_R' k_R_0' k_R_1' k_R_2'
  replace HA := Lib.hid (HA.out.below hs1.1)
  replace HD := Lib.hid (HD.out.below hs1.1)
  replace HA' := Lib.hid (HA'.out.below hs1.1)
  replace HD' := Lib.hid (HD'.out.below hs1.1)
  replace HNW := Lib.hid (Nat.le_trans HNW.out hs1.2)
  replace HBW := Lib.hid (HBW.out.trans (hs1.1.mono (by omega)))
  clear hn1 hs1 hk1 Hx1 HZ1 HE2
  go_upto_region 2 with fail
  go_cut [6] (fun s6 wx => CutInt N W2 x2 s6 wx)
  case first =>
   refine region_inv2 (by kernel_rfl) (AddJ2 N s s' a d a' d' na ca nd cd na' ca' nd' cd' zz2 x2 E1 D1 (W2)) ?_ ?_ ?_ ?_
   ·exact ⟨u13, u14, u15, u16, u17, u18, undef, by simp only [Act.put, aT, aZ, aS], .inl ⟨rfl, Since.drawn _, NoR⟩⟩
   ·exact acyc_spec (by kernel_rfl)
   ·intro Ls a0 wq i o ho hLi hafter hJ
    obtain ⟨u13, u14, u15, u16, u17, u18, u6, rfl, hJ | ⟨h10, hall, _⟩⟩ := hJ
    ·obtain ⟨hLl, hS, p0, p1, p2, p3, p4, p5, p6⟩ := hJ
     have P0 := Lib.hid p0; have P1 := Lib.hid p1; have P2 := Lib.hid p2; have P3 := Lib.hid p3; have P4 := Lib.hid p4; have P5 := Lib.hid p5; have P6 := Lib.hid p6; have HS := Lib.hid hS; clear hS p0 p1 p2 p3 p4 p5 p6
     have hi : i < 8 := (Array.getElem?_eq_some_iff.1 ho).1
     obtain rfl | rfl | rfl | rfl | rfl | rfl | rfl | rfl : i = 0 ∨ i = 1 ∨ i = 2 ∨ i = 3 ∨ i = 4 ∨ i = 5 ∨ i = 6 ∨ i = 7 := by omega
     ·simp only [gT, gZ, Option.some.injEq] at ho
      subst ho
      have c0 := (HS.out.1.cell (p := ⟨w.heap.size + 1, 0, none⟩) (by show w.heap.size + 1 < W2.heap.size; omega)).trans k_C_0
      have c1 := (HS.out.1.cell (p := ⟨w.heap.size + 1, 1, none⟩) (by show w.heap.size + 1 < W2.heap.size; omega)).trans k_C_1
      have c2 := (HS.out.1.cell (p := ⟨w.heap.size + 1, 2, none⟩) (by show w.heap.size + 1 < W2.heap.size; omega)).trans k_C_2
      clear hLi hafter
      simp only [Act.put, aT, aZ, aS]
      go_wp2_with fail
      exact ⟨.agg #[.bool s', .slice a' na' ca', .slice d' nd' cd'], u14, u15, u16, u17, u18, u6, by simp only [Act.put, aT, aZ, aS], .inl ⟨by simpa using hLl, HS.out, (fun _ => rfl), PvR⟩⟩
     ·simp only [gT, gZ, gS, Option.some.injEq] at ho
      subst ho
      obtain rfl := P0.out (hafter ⟨0, .data⟩ (by simp) rfl)
      clear hLi hafter
      simp only [Act.put, aT, aZ, aS]
      go_wp2_with fail
      refine (xtop_any (N := N) _ _ _ _ _ mn' _ _ md' _ (Nat.le_trans HNW.out HS.out.2) (HA'.out.below HS.out.1) (HD'.out.below HS.out.1) (by omega) (by omega) zz2 HZ2.out).mono ?_
      rintro e wn ⟨r, c, rfl, hn, hb⟩
      have HN := Lib.hid hn
      have Hb := Lib.hid hb
      clear hn hb
      go_wp2_with fail
      exact ⟨.agg #[.bool s', .slice a' na' ca', .slice d' nd' cd'], _, u15, u16, u17, u18, u6, by simp only [Act.put, aT, aZ, aS], .inl ⟨by simpa using hLl, HS.out.below Hb.out, PvA, (fun _ => ⟨r, c, rfl, HN.out⟩), PvA, (fun h => (P3.out (by simpa using h)).below Hb.out), (fun h => (P4.out (by simpa using h)).below Hb.out), (fun h => (P5.out (by simpa using h)).below Hb.out), (fun h => (P6.out (by simpa using h)).below Hb.out)⟩⟩
     ·simp only [gT, gZ, gS, Option.some.injEq] at ho
      subst ho
      have c0 := (HS.out.1.cell (p := ⟨w.heap.size, 0, none⟩) (by show w.heap.size < W2.heap.size; omega)).trans k_A_0
      have c1 := (HS.out.1.cell (p := ⟨w.heap.size, 1, none⟩) (by show w.heap.size < W2.heap.size; omega)).trans k_A_1
      have c2 := (HS.out.1.cell (p := ⟨w.heap.size, 2, none⟩) (by show w.heap.size < W2.heap.size; omega)).trans k_A_2
      clear hLi hafter
      simp only [Act.put, aT, aZ, aS]
      go_wp2_with fail
      exact ⟨u13, u14, .agg #[.bool s, .slice a na ca, .slice d nd cd], u16, u17, u18, u6, by simp only [Act.put, aT, aZ, aS], .inl ⟨by simpa using hLl, HS.out, PvA, PvA, (fun _ => rfl), PvR⟩⟩
     ·simp only [gT, gZ, gS, Option.some.injEq] at ho
      subst ho
      obtain rfl := P2.out (hafter ⟨2, .data⟩ (by simp) rfl)
      clear hLi hafter
      simp only [Act.put, aT, aZ, aS]
      go_wp2_with fail
      refine (xlow_any (N := N) _ _ _ _ _ mn _ _ md _ (Nat.le_trans HNW.out HS.out.2) (HA.out.below HS.out.1) (HD.out.below HS.out.1) (by omega) (by omega)).mono ?_
      rw [HD1.out]
      rintro e wn ⟨r, c, rfl, hn, hb⟩
      have HN := Lib.hid hn
      have Hb := Lib.hid hb
      clear hn hb
      go_wp2_with fail
      exact ⟨u13, u14, .agg #[.bool s, .slice a na ca, .slice d nd cd], _, u17, u18, u6, by simp only [Act.put, aT, aZ, aS], .inl ⟨by simpa using hLl, HS.out.below Hb.out, PvA, (fun h => (P1.out (by simpa using h)).below Hb.out), PvA, (fun _ => ⟨r, c, rfl, HN.out⟩), (fun h => (P4.out (by simpa using h)).below Hb.out), (fun h => (P5.out (by simpa using h)).below Hb.out), (fun h => (P6.out (by simpa using h)).below Hb.out)⟩⟩
     ·simp only [gT, gZ, gS, Option.some.injEq] at ho
      subst ho
      obtain ⟨r3, c3, rfl, hn3⟩ := P3.out (hafter ⟨3, .data⟩ (by simp) rfl)
      have HN3 := Lib.hid hn3
      clear hn3
      clear hLi hafter
      simp only [Act.put, aT, aZ, aS]
      go_wp2_with fail
      refine (xmake_z (N := N) false _ _ _ D1 _ (Nat.le_trans HNW.out HS.out.2) HN3.out (by omega) E1 HE1.out).mono ?_
      rintro e wn ⟨r, c, rfl, hn, hb⟩
      have HN := Lib.hid hn
      have Hb := Lib.hid hb
      clear hn hb
      go_wp2_with fail
      exact ⟨u13, u14, u15, _, _, u18, u6, by simp only [Act.put, aT, aZ, aS], .inl ⟨by simpa using hLl, HS.out.below Hb.out, PvA, (fun h => (P1.out (by simpa using h)).below Hb.out), PvA, (fun h => (P3.out (by simpa using h)).below Hb.out), (fun _ => ⟨r, c, rfl, HN.out⟩), (fun h => (P5.out (by simpa using h)).below Hb.out), (fun h => (P6.out (by simpa using h)).below Hb.out)⟩⟩
     ·simp only [gT, gZ, gS, Option.some.injEq] at ho
      subst ho
      obtain ⟨r1, c1, rfl, hn1⟩ := P1.out (hafter ⟨1, .data⟩ (by simp) rfl)
      have HN1 := Lib.hid hn1
      clear hn1
      obtain ⟨r4, c4, rfl, hn4⟩ := P4.out (hafter ⟨4, .data⟩ (by simp) rfl)
      have HN4 := Lib.hid hn4
      clear hn4
      clear hLi hafter
      simp only [Act.put, aT, aZ, aS]
      go_wp2_with fail
      refine (ximul_any (N := N) _ _ _ _ _ _ zz2.natAbs _ _ E1.natAbs _ (Nat.le_trans HNW.out HS.out.2) HN1.out HN4.out (by omega) (by omega) x2 Hx2.out).mono ?_
      rintro e wn ⟨r, c, rfl, hn, hb⟩
      have HN := Lib.hid hn
      have Hb := Lib.hid hb
      clear hn hb
      go_wp2_with fail
      exact ⟨u13, _, u15, u16, _, _, u6, by simp only [Act.put, aT, aZ, aS], .inl ⟨by simpa using hLl, HS.out.below Hb.out, PvA, (fun h => (P1.out (by simpa using h)).below Hb.out), PvA, (fun h => (P3.out (by simpa using h)).below Hb.out), (fun h => (P4.out (by simpa using h)).below Hb.out), (fun _ => ⟨r, c, rfl, HN.out⟩), (fun h => (P6.out (by simpa using h)).below Hb.out)⟩⟩
     ·simp only [gT, gZ, gS, Option.some.injEq] at ho
      subst ho
      clear hLi hafter
      simp only [Act.put, aT, aZ, aS]
      go_wp2_with fail
      exact ⟨u13, u14, u15, u16, u17, u18, _, by simp only [Act.put, aT, aZ, aS], .inl ⟨by simpa using hLl, HS.out.below (bel1 wq (.cells #[.bool false, .slice none 0 0] 27)), PvA, (fun h => (P1.out (by simpa using h)).below (bel1 wq (.cells #[.bool false, .slice none 0 0] 27))), PvA, (fun h => (P3.out (by simpa using h)).below (bel1 wq (.cells #[.bool false, .slice none 0 0] 27))), (fun h => (P4.out (by simpa using h)).below (bel1 wq (.cells #[.bool false, .slice none 0 0] 27))), (fun h => (P5.out (by simpa using h)).below (bel1 wq (.cells #[.bool false, .slice none 0 0] 27))), (fun _ => ⟨wq.heap.size, rfl, HS.out.2, Bk.new _ _ _⟩)⟩⟩
     ·simp only [gT, gZ, gS, Option.some.injEq] at ho
      subst ho
      have hall : ∀ j, j < 7 → Ls j = true := by
       intro j hj
       obtain rfl | rfl | rfl | rfl | rfl | rfl | rfl : j = 0 ∨ j = 1 ∨ j = 2 ∨ j = 3 ∨ j = 4 ∨ j = 5 ∨ j = 6 := by omega
       all_goals exact hafter ⟨_, .phase⟩ (by simp) rfl
      have HALL := Lib.hid hall
      clear hall
      obtain ⟨r5, c5, rfl, hn5⟩ := P5.out (hafter ⟨5, .data⟩ (by simp) rfl)
      have HN5 := Lib.hid hn5
      clear hn5
      obtain ⟨g, rfl, hg, hbk⟩ := P6.out (hafter ⟨6, .data⟩ (by simp) rfl)
      have f0 := hbk.frozen
      have HK := Lib.hid hbk
      obtain ⟨v0, hv0⟩ := hbk.cell (o := 0) (by omega)
      obtain ⟨v1, hv1⟩ := hbk.cell (o := 1) (by omega)
      clear hbk
      clear hLi hafter
      simp only [Act.put, aT, aZ, aS]
      go_wp2_with fail
      exact ⟨u13, u14, u15, u16, u17, .agg #[.bool (decide (x2 < 0)), .slice r5 (nlen x2.natAbs) c5], .pointer (some ⟨g, 0, none⟩), by simp only [Act.put, aT, aZ, aS], .inr ⟨by simp, fun j hj => by simp [HALL.out j hj], cutInt_of HNW.out hg HK.out HN5.out HS.out⟩⟩
    ·exfalso
     have hi : i < 8 := (Array.getElem?_eq_some_iff.1 ho).1
     rcases Nat.lt_or_ge i 7 with h | h
     ·rw [hall i h] at hLi; cases hLi
     ·obtain rfl : i = 7 := by omega
      rw [h10] at hLi; cases hLi
   ·intro Ls a0 wq hall hJ
    obtain ⟨u13, u14, u15, u16, u17, u18, u6, rfl, ⟨h10, _⟩ | ⟨_, _, hcut⟩⟩ := hJ
    ·rw [hall 7 (by decide)] at h10; cases h10
    ·have HC := Lib.hid hcut
     clear hcut
     simp only [Act.put, aT, aZ, aS]
     go_wp2_with fail
     go_meet
     exact HC.out
  case rest =>
   obtain ⟨g2, rb, cb1, rfl, hg2, hk2, kh0, kh1, hn2, hs2⟩ := hcut
   have hl_Y := hk2.lt
   have HN2 := Lib.hid hn2
   have hsz2 := hs2.2
   have f_Y := hk2.frozen
   have HX_Y := Lib.hid (hk2.bx.bn (by decide))
   have hl_A' : w.heap.size < wc.heap.size := Nat.lt_of_lt_of_le hl_A hs2.1.size
   have k_A_0' : wc.cell? ⟨w.heap.size, 0, none⟩ = some (.bool s) := (hs2.1.cell (p := ⟨w.heap.size, 0, none⟩) hl_A).trans k_A_0
   have k_A_1' : wc.cell? ⟨w.heap.size, 1, none⟩ = some (.slice a na ca) := (hs2.1.cell (p := ⟨w.heap.size, 1, none⟩) hl_A).trans k_A_1
   have k_A_2' : wc.cell? ⟨w.heap.size, 2, none⟩ = some (.slice d nd cd) := (hs2.1.cell (p := ⟨w.heap.size, 2, none⟩) hl_A).trans k_A_2
   have f_A' : ∀ o, wc.frozen? ⟨w.heap.size, o, none⟩ = false := fun o => (hs2.1.frozen (p := ⟨w.heap.size, o, none⟩) hl_A).trans (f_A o)
   have HX_A' := Lib.hid (HX_A.out.below hs2.1)
   clear hl_A f_A HX_A k_A_0 k_A_1 k_A_2
   have hl_A := hl_A'
   have f_A := f_A'
   have HX_A := HX_A'
   have k_A_0 := k_A_0'
   have k_A_1 := k_A_1'
   have k_A_2 := k_A_2'
   clear hl_A' f_A' HX_A' k_A_0' k_A_1' k_A_2'
   have hl_C' : w.heap.size + 1 < wc.heap.size := Nat.lt_of_lt_of_le hl_C hs2.1.size
   have k_C_0' : wc.cell? ⟨w.heap.size + 1, 0, none⟩ = some (.bool s') := (hs2.1.cell (p := ⟨w.heap.size + 1, 0, none⟩) hl_C).trans k_C_0
   have k_C_1' : wc.cell? ⟨w.heap.size + 1, 1, none⟩ = some (.slice a' na' ca') := (hs2.1.cell (p := ⟨w.heap.size + 1, 1, none⟩) hl_C).trans k_C_1
   have k_C_2' : wc.cell? ⟨w.heap.size + 1, 2, none⟩ = some (.slice d' nd' cd') := (hs2.1.cell (p := ⟨w.heap.size + 1, 2, none⟩) hl_C).trans k_C_2
   have f_C' : ∀ o, wc.frozen? ⟨w.heap.size + 1, o, none⟩ = false := fun o => (hs2.1.frozen (p := ⟨w.heap.size + 1, o, none⟩) hl_C).trans (f_C o)
   have HX_C' := Lib.hid (HX_C.out.below hs2.1)
   clear hl_C f_C HX_C k_C_0 k_C_1 k_C_2
   have hl_C := hl_C'
   have f_C := f_C'
   have HX_C := HX_C'
   have k_C_0 := k_C_0'
   have k_C_1 := k_C_1'
   have k_C_2 := k_C_2'
   clear hl_C' f_C' HX_C' k_C_0' k_C_1' k_C_2'
   have hl_R' : w.heap.size + 2 < wc.heap.size := Nat.lt_of_lt_of_le hl_R hs2.1.size
   have k_R_0' : wc.cell? ⟨w.heap.size + 2, 0, none⟩ = some (.bool false) := (hs2.1.cell (p := ⟨w.heap.size + 2, 0, none⟩) hl_R).trans k_R_0
   have k_R_1' : wc.cell? ⟨w.heap.size + 2, 1, none⟩ = some (.slice none 0 0) := (hs2.1.cell (p := ⟨w.heap.size + 2, 1, none⟩) hl_R).trans k_R_1
   have k_R_2' : wc.cell? ⟨w.heap.size + 2, 2, none⟩ = some (.slice none 0 0) := (hs2.1.cell (p := ⟨w.heap.size + 2, 2, none⟩) hl_R).trans k_R_2
   have f_R' : ∀ o, wc.frozen? ⟨w.heap.size + 2, o, none⟩ = false := fun o => (hs2.1.frozen (p := ⟨w.heap.size + 2, o, none⟩) hl_R).trans (f_R o)
   have HX_R' := Lib.hid (HX_R.out.below hs2.1)
   clear hl_R f_R HX_R k_R_0 k_R_1 k_R_2
   have hl_R := hl_R'
   have f_R := f_R'
   have HX_R := HX_R'
   have k_R_0 := k_R_0'
   have k_R_1 := k_R_1'
   have k_R_2 := k_R_2'
   clear hl_R' f_R' HX_R' k_R_0' k_R_1' k_R_2'
   replace HA := Lib.hid (HA.out.below hs2.1)
   replace HD := Lib.hid (HD.out.below hs2.1)
   replace HA' := Lib.hid (HA'.out.below hs2.1)
   replace HD' := Lib.hid (HD'.out.below hs2.1)
   have k_X_0 := (hs2.1.cell (p := ⟨g1, 0, none⟩) hgl).trans kg0
   have k_X_1 := (hs2.1.cell (p := ⟨g1, 1, none⟩) hgl).trans kg1
   replace f_X : ∀ o, wc.frozen? ⟨g1, o, none⟩ = false := fun o => (hs2.1.frozen (p := ⟨g1, o, none⟩) hgl).trans (f_X o)
   replace HX_X := Lib.hid (HX_X.out.below hs2.1)
   have hl_X : g1 < wc.heap.size := Nat.lt_of_lt_of_le hgl hs2.2
   have k_Y_0 := kh0
   have k_Y_1 := kh1
   replace HN1 := Lib.hid (HN1.out.below hs2.1)
   have HB := Lib.hid (HBW.out.trans (hs2.1.mono (by omega)))
   have hN0 := hN
   clear hN
   have hN : N ≤ wc.heap.size := Nat.le_trans HNW.out hs2.2
   have hs0 : w.heap.size ≤ wc.heap.size := by omega
   clear hn2 hs2 hk2 kg0 kg1 kh0 kh1 HBW hgl Hx2 HZ2 HE1
   go_wp2_with fail
   refine region_name fun W4 hW => ?_
   have HL_W4 := Lib.hid (show Below wc.heap.size wc W4 by rw [← hW]; exact BlA)
   have hs_W4 : wc.heap.size ≤ W4.heap.size := by rw [← hW]; exact OmT
   have HK_W4 := Lib.hid (show Kp N wc W4 by rw [← hW]; exact KpA)
   replace k_A_0 : W4.cell? ⟨w.heap.size, 0, none⟩ = some (.bool s) := (HL_W4.out.cell (p := ⟨w.heap.size, 0, none⟩) hl_A).trans k_A_0
   replace k_A_1 : W4.cell? ⟨w.heap.size, 1, none⟩ = some (.slice a na ca) := (HL_W4.out.cell (p := ⟨w.heap.size, 1, none⟩) hl_A).trans k_A_1
   replace k_A_2 : W4.cell? ⟨w.heap.size, 2, none⟩ = some (.slice d nd cd) := (HL_W4.out.cell (p := ⟨w.heap.size, 2, none⟩) hl_A).trans k_A_2
   replace f_A : ∀ o, W4.frozen? ⟨w.heap.size, o, none⟩ = false := fun o => (HL_W4.out.frozen (p := ⟨w.heap.size, o, none⟩) hl_A).trans (f_A o)
   replace HX_A := Lib.hid (show Bn W4 (w.heap.size) by rw [← hW]; exact KpA)
   replace k_C_0 : W4.cell? ⟨w.heap.size + 1, 0, none⟩ = some (.bool s') := (HL_W4.out.cell (p := ⟨w.heap.size + 1, 0, none⟩) hl_C).trans k_C_0
   replace k_C_1 : W4.cell? ⟨w.heap.size + 1, 1, none⟩ = some (.slice a' na' ca') := (HL_W4.out.cell (p := ⟨w.heap.size + 1, 1, none⟩) hl_C).trans k_C_1
   replace k_C_2 : W4.cell? ⟨w.heap.size + 1, 2, none⟩ = some (.slice d' nd' cd') := (HL_W4.out.cell (p := ⟨w.heap.size + 1, 2, none⟩) hl_C).trans k_C_2
   replace f_C : ∀ o, W4.frozen? ⟨w.heap.size + 1, o, none⟩ = false := fun o => (HL_W4.out.frozen (p := ⟨w.heap.size + 1, o, none⟩) hl_C).trans (f_C o)
   replace HX_C := Lib.hid (show Bn W4 (w.heap.size + 1) by rw [← hW]; exact KpA)
   replace k_R_0 : W4.cell? ⟨w.heap.size + 2, 0, none⟩ = some (.bool false) := (HL_W4.out.cell (p := ⟨w.heap.size + 2, 0, none⟩) hl_R).trans k_R_0
   replace k_R_1 : W4.cell? ⟨w.heap.size + 2, 1, none⟩ = some (.slice none 0 0) := (HL_W4.out.cell (p := ⟨w.heap.size + 2, 1, none⟩) hl_R).trans k_R_1
   replace k_R_2 : W4.cell? ⟨w.heap.size + 2, 2, none⟩ = some (.slice none 0 0) := (HL_W4.out.cell (p := ⟨w.heap.size + 2, 2, none⟩) hl_R).trans k_R_2
   replace f_R : ∀ o, W4.frozen? ⟨w.heap.size + 2, o, none⟩ = false := fun o => (HL_W4.out.frozen (p := ⟨w.heap.size + 2, o, none⟩) hl_R).trans (f_R o)
   replace HX_R := Lib.hid (show Bn W4 (w.heap.size + 2) by rw [← hW]; exact KpA)
   replace k_X_0 : W4.cell? ⟨g1, 0, none⟩ = some (.bool (decide (x1 < 0))) := (HL_W4.out.cell (p := ⟨g1, 0, none⟩) hl_X).trans k_X_0
   replace k_X_1 : W4.cell? ⟨g1, 1, none⟩ = some (.slice ra (nlen x1.natAbs) ca1) := (HL_W4.out.cell (p := ⟨g1, 1, none⟩) hl_X).trans k_X_1
   replace f_X : ∀ o, W4.frozen? ⟨g1, o, none⟩ = false := fun o => (HL_W4.out.frozen (p := ⟨g1, o, none⟩) hl_X).trans (f_X o)
   replace HX_X := Lib.hid (show Bn W4 (g1) by rw [← hW]; exact KpA)
   replace k_Y_0 : W4.cell? ⟨g2, 0, none⟩ = some (.bool (decide (x2 < 0))) := (HL_W4.out.cell (p := ⟨g2, 0, none⟩) hl_Y).trans k_Y_0
   replace k_Y_1 : W4.cell? ⟨g2, 1, none⟩ = some (.slice rb (nlen x2.natAbs) cb1) := (HL_W4.out.cell (p := ⟨g2, 1, none⟩) hl_Y).trans k_Y_1
   replace f_Y : ∀ o, W4.frozen? ⟨g2, o, none⟩ = false := fun o => (HL_W4.out.frozen (p := ⟨g2, o, none⟩) hl_Y).trans (f_Y o)
   replace HX_Y := Lib.hid (show Bn W4 (g2) by rw [← hW]; exact KpA)
   replace HA := Lib.hid (HA.out.keep HK_W4.out)
   replace HD := Lib.hid (HD.out.keep HK_W4.out)
   replace HA' := Lib.hid (HA'.out.keep HK_W4.out)
   replace HD' := Lib.hid (HD'.out.keep HK_W4.out)
   replace HN1 := Lib.hid (HN1.out.keep HK_W4.out)
   replace HN2 := Lib.hid (HN2.out.keep HK_W4.out)
   replace HB := Lib.hid (show Below w.heap.size w W4 by rw [← hW]; exact BlA)
   replace hN : N ≤ W4.heap.size := by rw [← hW]; exact OmT
   replace hs0 : w.heap.size ≤ W4.heap.size := by rw [← hW]; exact OmT
   replace hl_A : w.heap.size < W4.heap.size := by rw [← hW]; exact OmT
   replace hl_C : w.heap.size + 1 < W4.heap.size := by rw [← hW]; exact OmT
   replace hl_R : w.heap.size + 2 < W4.heap.size := by rw [← hW]; exact OmT
   replace hl_X : g1 < W4.heap.size := by rw [← hW]; exact OmT
   replace hl_Y : g2 < W4.heap.size := by rw [← hW]; exact OmT
   clear HL_W4
   clear hW HK_W4
   have tok_1 : True := trivial
   go_region_held3 (fun w' => w'.cell? ⟨w.heap.size, 0, none⟩ = some (.bool s) ∧ w'.cell? ⟨w.heap.size, 1, none⟩ = some (.slice a na ca) ∧ w'.cell? ⟨w.heap.size, 2, none⟩ = some (.slice d nd cd) ∧ w'.cell? ⟨w.heap.size + 1, 0, none⟩ = some (.bool s') ∧ w'.cell? ⟨w.heap.size + 1, 1, none⟩ = some (.slice a' na' ca') ∧ w'.cell? ⟨w.heap.size + 1, 2, none⟩ = some (.slice d' nd' cd') ∧ w'.cell? ⟨g1, 0, none⟩ = some (.bool (decide (x1 < 0))) ∧ w'.cell? ⟨g1, 1, none⟩ = some (.slice ra (nlen x1.natAbs) ca1) ∧ w'.cell? ⟨g2, 0, none⟩ = some (.bool (decide (x2 < 0))) ∧ w'.cell? ⟨g2, 1, none⟩ = some (.slice rb (nlen x2.natAbs) cb1))
    (first | (go_keep; done) | ((try dsimp only); (repeat' apply And.intro) <;> (first | (go_keep; done) | (exact cell_keep_alloc_drew (by first | omega | (simp; omega)) (by first | assumption | go_simp)) | (exact cell_keep_alloc (by first | omega | (simp; omega)) (by first | assumption | go_simp)) | (rw [cell_set2 _ _ _ _ _ _ _ _ (by omega)]; assumption) | (rw [cell_set3 _ _ _ _ _ _ _ _ _ _ (by omega)]; assumption))))
    (first
     | (go_at_call 91; refine (xiadd_any (N := N) _ _ _ _ _ _ x1.natAbs _ _ x2.natAbs _ (by exact hN) (by exact HN1.out) (by exact HN2.out) (by omega) (by omega) x HXS.out).mono ?_; rintro e wd ⟨re1, ce1, rfl, hn, hb⟩; replace hb : Below W4.heap.size W4 wd := (by first | exact hb | exact bel_of_drew hb); have hs_wd : W4.heap.size ≤ wd.heap.size := hb.size; replace k_A_0 : wd.cell? ⟨w.heap.size, 0, none⟩ = some (.bool s) := (hb.cell (p := ⟨w.heap.size, 0, none⟩) hl_A).trans k_A_0; replace k_A_1 : wd.cell? ⟨w.heap.size, 1, none⟩ = some (.slice a na ca) := (hb.cell (p := ⟨w.heap.size, 1, none⟩) hl_A).trans k_A_1; replace k_A_2 : wd.cell? ⟨w.heap.size, 2, none⟩ = some (.slice d nd cd) := (hb.cell (p := ⟨w.heap.size, 2, none⟩) hl_A).trans k_A_2; replace f_A : ∀ o, wd.frozen? ⟨w.heap.size, o, none⟩ = false := fun o => (hb.frozen (p := ⟨w.heap.size, o, none⟩) hl_A).trans (f_A o); replace HX_A := Lib.hid (HX_A.out.below hb); replace k_C_0 : wd.cell? ⟨w.heap.size + 1, 0, none⟩ = some (.bool s') := (hb.cell (p := ⟨w.heap.size + 1, 0, none⟩) hl_C).trans k_C_0; replace k_C_1 : wd.cell? ⟨w.heap.size + 1, 1, none⟩ = some (.slice a' na' ca') := (hb.cell (p := ⟨w.heap.size + 1, 1, none⟩) hl_C).trans k_C_1; replace k_C_2 : wd.cell? ⟨w.heap.size + 1, 2, none⟩ = some (.slice d' nd' cd') := (hb.cell (p := ⟨w.heap.size + 1, 2, none⟩) hl_C).trans k_C_2; replace f_C : ∀ o, wd.frozen? ⟨w.heap.size + 1, o, none⟩ = false := fun o => (hb.frozen (p := ⟨w.heap.size + 1, o, none⟩) hl_C).trans (f_C o); replace HX_C := Lib.hid (HX_C.out.below hb); replace k_R_0 : wd.cell? ⟨w.heap.size + 2, 0, none⟩ = some (.bool false) := (hb.cell (p := ⟨w.heap.size + 2, 0, none⟩) hl_R).trans k_R_0; replace k_R_1 : wd.cell? ⟨w.heap.size + 2, 1, none⟩ = some (.slice none 0 0) := (hb.cell (p := ⟨w.heap.size + 2, 1, none⟩) hl_R).trans k_R_1; replace k_R_2 : wd.cell? ⟨w.heap.size + 2, 2, none⟩ = some (.slice none 0 0) := (hb.cell (p := ⟨w.heap.size + 2, 2, none⟩) hl_R).trans k_R_2; replace f_R : ∀ o, wd.frozen? ⟨w.heap.size + 2, o, none⟩ = false := fun o => (hb.frozen (p := ⟨w.heap.size + 2, o, none⟩) hl_R).trans (f_R o); replace HX_R := Lib.hid (HX_R.out.below hb); replace k_X_0 : wd.cell? ⟨g1, 0, none⟩ = some (.bool (decide (x1 < 0))) := (hb.cell (p := ⟨g1, 0, none⟩) hl_X).trans k_X_0; replace k_X_1 : wd.cell? ⟨g1, 1, none⟩ = some (.slice ra (nlen x1.natAbs) ca1) := (hb.cell (p := ⟨g1, 1, none⟩) hl_X).trans k_X_1; replace f_X : ∀ o, wd.frozen? ⟨g1, o, none⟩ = false := fun o => (hb.frozen (p := ⟨g1, o, none⟩) hl_X).trans (f_X o); replace HX_X := Lib.hid (HX_X.out.below hb); replace k_Y_0 : wd.cell? ⟨g2, 0, none⟩ = some (.bool (decide (x2 < 0))) := (hb.cell (p := ⟨g2, 0, none⟩) hl_Y).trans k_Y_0; replace k_Y_1 : wd.cell? ⟨g2, 1, none⟩ = some (.slice rb (nlen x2.natAbs) cb1) := (hb.cell (p := ⟨g2, 1, none⟩) hl_Y).trans k_Y_1; replace f_Y : ∀ o, wd.frozen? ⟨g2, o, none⟩ = false := fun o => (hb.frozen (p := ⟨g2, o, none⟩) hl_Y).trans (f_Y o); replace HX_Y := Lib.hid (HX_Y.out.below hb); replace HA := Lib.hid (HA.out.below hb); replace HD := Lib.hid (HD.out.below hb); replace HA' := Lib.hid (HA'.out.below hb); replace HD' := Lib.hid (HD'.out.below hb); replace HN1 := Lib.hid (HN1.out.below hb); replace HN2 := Lib.hid (HN2.out.below hb); replace HB := Lib.hid (HB.out.trans (hb.mono hs0)); replace hN : N ≤ wd.heap.size := Nat.le_trans hN hb.size; replace hs0 : w.heap.size ≤ wd.heap.size := Nat.le_trans hs0 hb.size; replace hl_A : w.heap.size < wd.heap.size := Nat.lt_of_lt_of_le hl_A hb.size; replace hl_C : w.heap.size + 1 < wd.heap.size := Nat.lt_of_lt_of_le hl_C hb.size; replace hl_R : w.heap.size + 2 < wd.heap.size := Nat.lt_of_lt_of_le hl_R hb.size; replace hl_X : g1 < wd.heap.size := Nat.lt_of_lt_of_le hl_X hb.size; replace hl_Y : g2 < wd.heap.size := Nat.lt_of_lt_of_le hl_Y hb.size; clear hb; have HS := Lib.hid hn; clear hn; skip)
     | (go_at_call 62; have _t := tok_1; refine (xlow_any (N := N) _ _ _ _ _ mn _ _ md _ (by exact hN) (by exact HA.out) (by exact HD.out) (by omega) (by omega)).mono ?_; (rw [HD1.out]); rintro e we ⟨rf1, cf1, rfl, hn, hb⟩; replace hb : Below wd.heap.size wd we := (by first | exact hb | exact bel_of_drew hb); have hs_we : wd.heap.size ≤ we.heap.size := hb.size; replace k_A_0 : we.cell? ⟨w.heap.size, 0, none⟩ = some (.bool s) := (hb.cell (p := ⟨w.heap.size, 0, none⟩) hl_A).trans k_A_0; replace k_A_1 : we.cell? ⟨w.heap.size, 1, none⟩ = some (.slice a na ca) := (hb.cell (p := ⟨w.heap.size, 1, none⟩) hl_A).trans k_A_1; replace k_A_2 : we.cell? ⟨w.heap.size, 2, none⟩ = some (.slice d nd cd) := (hb.cell (p := ⟨w.heap.size, 2, none⟩) hl_A).trans k_A_2; replace f_A : ∀ o, we.frozen? ⟨w.heap.size, o, none⟩ = false := fun o => (hb.frozen (p := ⟨w.heap.size, o, none⟩) hl_A).trans (f_A o); replace HX_A := Lib.hid (HX_A.out.below hb); replace k_C_0 : we.cell? ⟨w.heap.size + 1, 0, none⟩ = some (.bool s') := (hb.cell (p := ⟨w.heap.size + 1, 0, none⟩) hl_C).trans k_C_0; replace k_C_1 : we.cell? ⟨w.heap.size + 1, 1, none⟩ = some (.slice a' na' ca') := (hb.cell (p := ⟨w.heap.size + 1, 1, none⟩) hl_C).trans k_C_1; replace k_C_2 : we.cell? ⟨w.heap.size + 1, 2, none⟩ = some (.slice d' nd' cd') := (hb.cell (p := ⟨w.heap.size + 1, 2, none⟩) hl_C).trans k_C_2; replace f_C : ∀ o, we.frozen? ⟨w.heap.size + 1, o, none⟩ = false := fun o => (hb.frozen (p := ⟨w.heap.size + 1, o, none⟩) hl_C).trans (f_C o); replace HX_C := Lib.hid (HX_C.out.below hb); replace k_R_0 : we.cell? ⟨w.heap.size + 2, 0, none⟩ = some (.bool false) := (hb.cell (p := ⟨w.heap.size + 2, 0, none⟩) hl_R).trans k_R_0; replace k_R_1 : we.cell? ⟨w.heap.size + 2, 1, none⟩ = some (.slice none 0 0) := (hb.cell (p := ⟨w.heap.size + 2, 1, none⟩) hl_R).trans k_R_1; replace k_R_2 : we.cell? ⟨w.heap.size + 2, 2, none⟩ = some (.slice none 0 0) := (hb.cell (p := ⟨w.heap.size + 2, 2, none⟩) hl_R).trans k_R_2; replace f_R : ∀ o, we.frozen? ⟨w.heap.size + 2, o, none⟩ = false := fun o => (hb.frozen (p := ⟨w.heap.size + 2, o, none⟩) hl_R).trans (f_R o); replace HX_R := Lib.hid (HX_R.out.below hb); replace k_X_0 : we.cell? ⟨g1, 0, none⟩ = some (.bool (decide (x1 < 0))) := (hb.cell (p := ⟨g1, 0, none⟩) hl_X).trans k_X_0; replace k_X_1 : we.cell? ⟨g1, 1, none⟩ = some (.slice ra (nlen x1.natAbs) ca1) := (hb.cell (p := ⟨g1, 1, none⟩) hl_X).trans k_X_1; replace f_X : ∀ o, we.frozen? ⟨g1, o, none⟩ = false := fun o => (hb.frozen (p := ⟨g1, o, none⟩) hl_X).trans (f_X o); replace HX_X := Lib.hid (HX_X.out.below hb); replace k_Y_0 : we.cell? ⟨g2, 0, none⟩ = some (.bool (decide (x2 < 0))) := (hb.cell (p := ⟨g2, 0, none⟩) hl_Y).trans k_Y_0; replace k_Y_1 : we.cell? ⟨g2, 1, none⟩ = some (.slice rb (nlen x2.natAbs) cb1) := (hb.cell (p := ⟨g2, 1, none⟩) hl_Y).trans k_Y_1; replace f_Y : ∀ o, we.frozen? ⟨g2, o, none⟩ = false := fun o => (hb.frozen (p := ⟨g2, o, none⟩) hl_Y).trans (f_Y o); replace HX_Y := Lib.hid (HX_Y.out.below hb); replace HA := Lib.hid (HA.out.below hb); replace HD := Lib.hid (HD.out.below hb); replace HA' := Lib.hid (HA'.out.below hb); replace HD' := Lib.hid (HD'.out.below hb); replace HN1 := Lib.hid (HN1.out.below hb); replace HN2 := Lib.hid (HN2.out.below hb); replace HS := Lib.hid (HS.out.below hb); replace HB := Lib.hid (HB.out.trans (hb.mono hs0)); replace hN : N ≤ we.heap.size := Nat.le_trans hN hb.size; replace hs0 : w.heap.size ≤ we.heap.size := Nat.le_trans hs0 hb.size; replace hl_A : w.heap.size < we.heap.size := Nat.lt_of_lt_of_le hl_A hb.size; replace hl_C : w.heap.size + 1 < we.heap.size := Nat.lt_of_lt_of_le hl_C hb.size; replace hl_R : w.heap.size + 2 < we.heap.size := Nat.lt_of_lt_of_le hl_R hb.size; replace hl_X : g1 < we.heap.size := Nat.lt_of_lt_of_le hl_X hb.size; replace hl_Y : g2 < we.heap.size := Nat.lt_of_lt_of_le hl_Y hb.size; clear hb; have HLa := Lib.hid hn; clear hn; clear _t tok_1)
     | (go_at_call 62; refine (xlow_any (N := N) _ _ _ _ _ mn' _ _ md' _ (by exact hN) (by exact HA'.out) (by exact HD'.out) (by omega) (by omega)).mono ?_; (rw [HD2.out]); rintro e wf ⟨rg1, cg1, rfl, hn, hb⟩; replace hb : Below we.heap.size we wf := (by first | exact hb | exact bel_of_drew hb); have hs_wf : we.heap.size ≤ wf.heap.size := hb.size; replace k_A_0 : wf.cell? ⟨w.heap.size, 0, none⟩ = some (.bool s) := (hb.cell (p := ⟨w.heap.size, 0, none⟩) hl_A).trans k_A_0; replace k_A_1 : wf.cell? ⟨w.heap.size, 1, none⟩ = some (.slice a na ca) := (hb.cell (p := ⟨w.heap.size, 1, none⟩) hl_A).trans k_A_1; replace k_A_2 : wf.cell? ⟨w.heap.size, 2, none⟩ = some (.slice d nd cd) := (hb.cell (p := ⟨w.heap.size, 2, none⟩) hl_A).trans k_A_2; replace f_A : ∀ o, wf.frozen? ⟨w.heap.size, o, none⟩ = false := fun o => (hb.frozen (p := ⟨w.heap.size, o, none⟩) hl_A).trans (f_A o); replace HX_A := Lib.hid (HX_A.out.below hb); replace k_C_0 : wf.cell? ⟨w.heap.size + 1, 0, none⟩ = some (.bool s') := (hb.cell (p := ⟨w.heap.size + 1, 0, none⟩) hl_C).trans k_C_0; replace k_C_1 : wf.cell? ⟨w.heap.size + 1, 1, none⟩ = some (.slice a' na' ca') := (hb.cell (p := ⟨w.heap.size + 1, 1, none⟩) hl_C).trans k_C_1; replace k_C_2 : wf.cell? ⟨w.heap.size + 1, 2, none⟩ = some (.slice d' nd' cd') := (hb.cell (p := ⟨w.heap.size + 1, 2, none⟩) hl_C).trans k_C_2; replace f_C : ∀ o, wf.frozen? ⟨w.heap.size + 1, o, none⟩ = false := fun o => (hb.frozen (p := ⟨w.heap.size + 1, o, none⟩) hl_C).trans (f_C o); replace HX_C := Lib.hid (HX_C.out.below hb); replace k_R_0 : wf.cell? ⟨w.heap.size + 2, 0, none⟩ = some (.bool false) := (hb.cell (p := ⟨w.heap.size + 2, 0, none⟩) hl_R).trans k_R_0; replace k_R_1 : wf.cell? ⟨w.heap.size + 2, 1, none⟩ = some (.slice none 0 0) := (hb.cell (p := ⟨w.heap.size + 2, 1, none⟩) hl_R).trans k_R_1; replace k_R_2 : wf.cell? ⟨w.heap.size + 2, 2, none⟩ = some (.slice none 0 0) := (hb.cell (p := ⟨w.heap.size + 2, 2, none⟩) hl_R).trans k_R_2; replace f_R : ∀ o, wf.frozen? ⟨w.heap.size + 2, o, none⟩ = false := fun o => (hb.frozen (p := ⟨w.heap.size + 2, o, none⟩) hl_R).trans (f_R o); replace HX_R := Lib.hid (HX_R.out.below hb); replace k_X_0 : wf.cell? ⟨g1, 0, none⟩ = some (.bool (decide (x1 < 0))) := (hb.cell (p := ⟨g1, 0, none⟩) hl_X).trans k_X_0; replace k_X_1 : wf.cell? ⟨g1, 1, none⟩ = some (.slice ra (nlen x1.natAbs) ca1) := (hb.cell (p := ⟨g1, 1, none⟩) hl_X).trans k_X_1; replace f_X : ∀ o, wf.frozen? ⟨g1, o, none⟩ = false := fun o => (hb.frozen (p := ⟨g1, o, none⟩) hl_X).trans (f_X o); replace HX_X := Lib.hid (HX_X.out.below hb); replace k_Y_0 : wf.cell? ⟨g2, 0, none⟩ = some (.bool (decide (x2 < 0))) := (hb.cell (p := ⟨g2, 0, none⟩) hl_Y).trans k_Y_0; replace k_Y_1 : wf.cell? ⟨g2, 1, none⟩ = some (.slice rb (nlen x2.natAbs) cb1) := (hb.cell (p := ⟨g2, 1, none⟩) hl_Y).trans k_Y_1; replace f_Y : ∀ o, wf.frozen? ⟨g2, o, none⟩ = false := fun o => (hb.frozen (p := ⟨g2, o, none⟩) hl_Y).trans (f_Y o); replace HX_Y := Lib.hid (HX_Y.out.below hb); replace HA := Lib.hid (HA.out.below hb); replace HD := Lib.hid (HD.out.below hb); replace HA' := Lib.hid (HA'.out.below hb); replace HD' := Lib.hid (HD'.out.below hb); replace HN1 := Lib.hid (HN1.out.below hb); replace HN2 := Lib.hid (HN2.out.below hb); replace HS := Lib.hid (HS.out.below hb); replace HLa := Lib.hid (HLa.out.below hb); replace HB := Lib.hid (HB.out.trans (hb.mono hs0)); replace hN : N ≤ wf.heap.size := Nat.le_trans hN hb.size; replace hs0 : w.heap.size ≤ wf.heap.size := Nat.le_trans hs0 hb.size; replace hl_A : w.heap.size < wf.heap.size := Nat.lt_of_lt_of_le hl_A hb.size; replace hl_C : w.heap.size + 1 < wf.heap.size := Nat.lt_of_lt_of_le hl_C hb.size; replace hl_R : w.heap.size + 2 < wf.heap.size := Nat.lt_of_lt_of_le hl_R hb.size; replace hl_X : g1 < wf.heap.size := Nat.lt_of_lt_of_le hl_X hb.size; replace hl_Y : g2 < wf.heap.size := Nat.lt_of_lt_of_le hl_Y hb.size; clear hb; have HLb := Lib.hid hn; clear hn; skip)
     | (go_at_call 87; refine (xmul_any (N := N) _ _ _ _ D1 _ _ D2 _ (by exact hN) (by exact HLa.out) (by exact HLb.out) (by omega) (by omega)).mono ?_; rintro e wg ⟨rh1, ch1, rfl, hn, hb⟩; replace hb : Below wf.heap.size wf wg := (by first | exact hb | exact bel_of_drew hb); have hs_wg : wf.heap.size ≤ wg.heap.size := hb.size; replace k_A_0 : wg.cell? ⟨w.heap.size, 0, none⟩ = some (.bool s) := (hb.cell (p := ⟨w.heap.size, 0, none⟩) hl_A).trans k_A_0; replace k_A_1 : wg.cell? ⟨w.heap.size, 1, none⟩ = some (.slice a na ca) := (hb.cell (p := ⟨w.heap.size, 1, none⟩) hl_A).trans k_A_1; replace k_A_2 : wg.cell? ⟨w.heap.size, 2, none⟩ = some (.slice d nd cd) := (hb.cell (p := ⟨w.heap.size, 2, none⟩) hl_A).trans k_A_2; replace f_A : ∀ o, wg.frozen? ⟨w.heap.size, o, none⟩ = false := fun o => (hb.frozen (p := ⟨w.heap.size, o, none⟩) hl_A).trans (f_A o); replace HX_A := Lib.hid (HX_A.out.below hb); replace k_C_0 : wg.cell? ⟨w.heap.size + 1, 0, none⟩ = some (.bool s') := (hb.cell (p := ⟨w.heap.size + 1, 0, none⟩) hl_C).trans k_C_0; replace k_C_1 : wg.cell? ⟨w.heap.size + 1, 1, none⟩ = some (.slice a' na' ca') := (hb.cell (p := ⟨w.heap.size + 1, 1, none⟩) hl_C).trans k_C_1; replace k_C_2 : wg.cell? ⟨w.heap.size + 1, 2, none⟩ = some (.slice d' nd' cd') := (hb.cell (p := ⟨w.heap.size + 1, 2, none⟩) hl_C).trans k_C_2; replace f_C : ∀ o, wg.frozen? ⟨w.heap.size + 1, o, none⟩ = false := fun o => (hb.frozen (p := ⟨w.heap.size + 1, o, none⟩) hl_C).trans (f_C o); replace HX_C := Lib.hid (HX_C.out.below hb); replace k_R_0 : wg.cell? ⟨w.heap.size + 2, 0, none⟩ = some (.bool false) := (hb.cell (p := ⟨w.heap.size + 2, 0, none⟩) hl_R).trans k_R_0; replace k_R_1 : wg.cell? ⟨w.heap.size + 2, 1, none⟩ = some (.slice none 0 0) := (hb.cell (p := ⟨w.heap.size + 2, 1, none⟩) hl_R).trans k_R_1; replace k_R_2 : wg.cell? ⟨w.heap.size + 2, 2, none⟩ = some (.slice none 0 0) := (hb.cell (p := ⟨w.heap.size + 2, 2, none⟩) hl_R).trans k_R_2; replace f_R : ∀ o, wg.frozen? ⟨w.heap.size + 2, o, none⟩ = false := fun o => (hb.frozen (p := ⟨w.heap.size + 2, o, none⟩) hl_R).trans (f_R o); replace HX_R := Lib.hid (HX_R.out.below hb); replace k_X_0 : wg.cell? ⟨g1, 0, none⟩ = some (.bool (decide (x1 < 0))) := (hb.cell (p := ⟨g1, 0, none⟩) hl_X).trans k_X_0; replace k_X_1 : wg.cell? ⟨g1, 1, none⟩ = some (.slice ra (nlen x1.natAbs) ca1) := (hb.cell (p := ⟨g1, 1, none⟩) hl_X).trans k_X_1; replace f_X : ∀ o, wg.frozen? ⟨g1, o, none⟩ = false := fun o => (hb.frozen (p := ⟨g1, o, none⟩) hl_X).trans (f_X o); replace HX_X := Lib.hid (HX_X.out.below hb); replace k_Y_0 : wg.cell? ⟨g2, 0, none⟩ = some (.bool (decide (x2 < 0))) := (hb.cell (p := ⟨g2, 0, none⟩) hl_Y).trans k_Y_0; replace k_Y_1 : wg.cell? ⟨g2, 1, none⟩ = some (.slice rb (nlen x2.natAbs) cb1) := (hb.cell (p := ⟨g2, 1, none⟩) hl_Y).trans k_Y_1; replace f_Y : ∀ o, wg.frozen? ⟨g2, o, none⟩ = false := fun o => (hb.frozen (p := ⟨g2, o, none⟩) hl_Y).trans (f_Y o); replace HX_Y := Lib.hid (HX_Y.out.below hb); replace HA := Lib.hid (HA.out.below hb); replace HD := Lib.hid (HD.out.below hb); replace HA' := Lib.hid (HA'.out.below hb); replace HD' := Lib.hid (HD'.out.below hb); replace HN1 := Lib.hid (HN1.out.below hb); replace HN2 := Lib.hid (HN2.out.below hb); replace HS := Lib.hid (HS.out.below hb); replace HLa := Lib.hid (HLa.out.below hb); replace HLb := Lib.hid (HLb.out.below hb); replace HB := Lib.hid (HB.out.trans (hb.mono hs0)); replace hN : N ≤ wg.heap.size := Nat.le_trans hN hb.size; replace hs0 : w.heap.size ≤ wg.heap.size := Nat.le_trans hs0 hb.size; replace hl_A : w.heap.size < wg.heap.size := Nat.lt_of_lt_of_le hl_A hb.size; replace hl_C : w.heap.size + 1 < wg.heap.size := Nat.lt_of_lt_of_le hl_C hb.size; replace hl_R : w.heap.size + 2 < wg.heap.size := Nat.lt_of_lt_of_le hl_R hb.size; replace hl_X : g1 < wg.heap.size := Nat.lt_of_lt_of_le hl_X hb.size; replace hl_Y : g2 < wg.heap.size := Nat.lt_of_lt_of_le hl_Y hb.size; clear hb; have HM := Lib.hid hn; clear hn; skip)
     | (go_at_call 84; refine (xreduce_any (N := N) _ _ _ _ _ x.natAbs _ _ (D1 * D2) _ (by exact hN) (by exact HS.out) (by exact HM.out) (by omega) (by omega) pp p HQ.out).mono ?_; rintro e wh ⟨rx, cx, rx2, cx2, rfl, hn, hn', hb⟩; replace hb : Below wg.heap.size wg wh := (by first | exact hb | exact bel_of_drew hb); have hs_wh : wg.heap.size ≤ wh.heap.size := hb.size; replace k_A_0 : wh.cell? ⟨w.heap.size, 0, none⟩ = some (.bool s) := (hb.cell (p := ⟨w.heap.size, 0, none⟩) hl_A).trans k_A_0; replace k_A_1 : wh.cell? ⟨w.heap.size, 1, none⟩ = some (.slice a na ca) := (hb.cell (p := ⟨w.heap.size, 1, none⟩) hl_A).trans k_A_1; replace k_A_2 : wh.cell? ⟨w.heap.size, 2, none⟩ = some (.slice d nd cd) := (hb.cell (p := ⟨w.heap.size, 2, none⟩) hl_A).trans k_A_2; replace f_A : ∀ o, wh.frozen? ⟨w.heap.size, o, none⟩ = false := fun o => (hb.frozen (p := ⟨w.heap.size, o, none⟩) hl_A).trans (f_A o); replace HX_A := Lib.hid (HX_A.out.below hb); replace k_C_0 : wh.cell? ⟨w.heap.size + 1, 0, none⟩ = some (.bool s') := (hb.cell (p := ⟨w.heap.size + 1, 0, none⟩) hl_C).trans k_C_0; replace k_C_1 : wh.cell? ⟨w.heap.size + 1, 1, none⟩ = some (.slice a' na' ca') := (hb.cell (p := ⟨w.heap.size + 1, 1, none⟩) hl_C).trans k_C_1; replace k_C_2 : wh.cell? ⟨w.heap.size + 1, 2, none⟩ = some (.slice d' nd' cd') := (hb.cell (p := ⟨w.heap.size + 1, 2, none⟩) hl_C).trans k_C_2; replace f_C : ∀ o, wh.frozen? ⟨w.heap.size + 1, o, none⟩ = false := fun o => (hb.frozen (p := ⟨w.heap.size + 1, o, none⟩) hl_C).trans (f_C o); replace HX_C := Lib.hid (HX_C.out.below hb); replace k_R_0 : wh.cell? ⟨w.heap.size + 2, 0, none⟩ = some (.bool false) := (hb.cell (p := ⟨w.heap.size + 2, 0, none⟩) hl_R).trans k_R_0; replace k_R_1 : wh.cell? ⟨w.heap.size + 2, 1, none⟩ = some (.slice none 0 0) := (hb.cell (p := ⟨w.heap.size + 2, 1, none⟩) hl_R).trans k_R_1; replace k_R_2 : wh.cell? ⟨w.heap.size + 2, 2, none⟩ = some (.slice none 0 0) := (hb.cell (p := ⟨w.heap.size + 2, 2, none⟩) hl_R).trans k_R_2; replace f_R : ∀ o, wh.frozen? ⟨w.heap.size + 2, o, none⟩ = false := fun o => (hb.frozen (p := ⟨w.heap.size + 2, o, none⟩) hl_R).trans (f_R o); replace HX_R := Lib.hid (HX_R.out.below hb); replace k_X_0 : wh.cell? ⟨g1, 0, none⟩ = some (.bool (decide (x1 < 0))) := (hb.cell (p := ⟨g1, 0, none⟩) hl_X).trans k_X_0; replace k_X_1 : wh.cell? ⟨g1, 1, none⟩ = some (.slice ra (nlen x1.natAbs) ca1) := (hb.cell (p := ⟨g1, 1, none⟩) hl_X).trans k_X_1; replace f_X : ∀ o, wh.frozen? ⟨g1, o, none⟩ = false := fun o => (hb.frozen (p := ⟨g1, o, none⟩) hl_X).trans (f_X o); replace HX_X := Lib.hid (HX_X.out.below hb); replace k_Y_0 : wh.cell? ⟨g2, 0, none⟩ = some (.bool (decide (x2 < 0))) := (hb.cell (p := ⟨g2, 0, none⟩) hl_Y).trans k_Y_0; replace k_Y_1 : wh.cell? ⟨g2, 1, none⟩ = some (.slice rb (nlen x2.natAbs) cb1) := (hb.cell (p := ⟨g2, 1, none⟩) hl_Y).trans k_Y_1; replace f_Y : ∀ o, wh.frozen? ⟨g2, o, none⟩ = false := fun o => (hb.frozen (p := ⟨g2, o, none⟩) hl_Y).trans (f_Y o); replace HX_Y := Lib.hid (HX_Y.out.below hb); replace HA := Lib.hid (HA.out.below hb); replace HD := Lib.hid (HD.out.below hb); replace HA' := Lib.hid (HA'.out.below hb); replace HD' := Lib.hid (HD'.out.below hb); replace HN1 := Lib.hid (HN1.out.below hb); replace HN2 := Lib.hid (HN2.out.below hb); replace HS := Lib.hid (HS.out.below hb); replace HLa := Lib.hid (HLa.out.below hb); replace HLb := Lib.hid (HLb.out.below hb); replace HM := Lib.hid (HM.out.below hb); replace HB := Lib.hid (HB.out.trans (hb.mono hs0)); replace hN : N ≤ wh.heap.size := Nat.le_trans hN hb.size; replace hs0 : w.heap.size ≤ wh.heap.size := Nat.le_trans hs0 hb.size; replace hl_A : w.heap.size < wh.heap.size := Nat.lt_of_lt_of_le hl_A hb.size; replace hl_C : w.heap.size + 1 < wh.heap.size := Nat.lt_of_lt_of_le hl_C hb.size; replace hl_R : w.heap.size + 2 < wh.heap.size := Nat.lt_of_lt_of_le hl_R hb.size; replace hl_X : g1 < wh.heap.size := Nat.lt_of_lt_of_le hl_X hb.size; replace hl_Y : g2 < wh.heap.size := Nat.lt_of_lt_of_le hl_Y hb.size; clear hb; have HX1 := Lib.hid hn; clear hn; have HX2 := Lib.hid hn'; clear hn'; skip))
   go_wp2_with fail
   refine bodyPost_ret (v := .agg #[.bool (decide ((p).num < 0)), .slice rx (nlen (p).num.natAbs) cx, .slice rx2 (nlen (p).den) cx2]) (by simp [results, Tryz.results66, go_sem, k_R_0, k_R_1, k_R_2]) rfl ⟨_, _, _, _, rfl, HX1.out.keep ?_, HX2.out.keep ?_, ?_⟩
   all_goals exact KBA
set_option maxHeartbeats 4000000 in
theorem xrsub_any {N : Nat} (s s' : Bool) (a d a' d' : Option Addr) (na ca nd cd na' ca' nd' cd' L L' : Nat) (q q' : Rat) (w : World) (hN : N ≤ w.heap.size) (h : Rt N w s a na ca d nd cd q L) (h' : Rt N w s' a' na' ca' d' nd' cd' q' L') (hL : L ≤ 68719476736) (hL' : L' ≤ 68719476736) (p : Rat) (hp : q - q' = p) :
  Calls Tryz.prog 65 #[.agg #[.bool s, .slice a na ca, .slice d nd cd], .agg #[.bool s', .slice a' na' ca', .slice d' nd' cd']] w (RatPost N w p) := by
 obtain ⟨p1, hp1⟩ : ∃ p1, -q' = p1 := ⟨_, rfl⟩
 have HP := Lib.hid (show q + p1 = p by rw [← hp1, ← hp, Rat.sub_eq_add_neg])
 have HSZ := Lib.hid (show rsz p1 ≤ L' by rw [← hp1, rsz_neg]; exact h'.rsz_le)
 have HP1 := Lib.hid hp1
 have H := Lib.hid h
 have H' := Lib.hid h'
 clear h h' hp hp1
 have hN0 := hN
 have HB := Lib.hid (Below.refl w.heap.size w)
 go_enter Tryz.func65, Tryz.ntmps65
 go_wp2_with fail
 refine region_name fun W0 hW => ?_
 have hs_W0 : w.heap.size ≤ W0.heap.size := by rw [← hW]; exact OmT
 have HK_W0 := Lib.hid (show Kp N w W0 by rw [← hW]; exact KpA)
 have k_A_0 : W0.cell? ⟨w.heap.size, 0, none⟩ = some (.bool s) := by rw [← hW]; exact CeA
 have k_A_1 : W0.cell? ⟨w.heap.size, 1, none⟩ = some (.slice a na ca) := by rw [← hW]; exact CeA
 have k_A_2 : W0.cell? ⟨w.heap.size, 2, none⟩ = some (.slice d nd cd) := by rw [← hW]; exact CeA
 have f_A : ∀ o, W0.frozen? ⟨w.heap.size, o, none⟩ = false := by intro o; rw [← hW]; exact CeA
 have HX_A := Lib.hid (show Bn W0 (w.heap.size) by rw [← hW]; exact KpA)
 have k_C_0 : W0.cell? ⟨w.heap.size + 1, 0, none⟩ = some (.bool s') := by rw [← hW]; exact CeA
 have k_C_1 : W0.cell? ⟨w.heap.size + 1, 1, none⟩ = some (.slice a' na' ca') := by rw [← hW]; exact CeA
 have k_C_2 : W0.cell? ⟨w.heap.size + 1, 2, none⟩ = some (.slice d' nd' cd') := by rw [← hW]; exact CeA
 have f_C : ∀ o, W0.frozen? ⟨w.heap.size + 1, o, none⟩ = false := by intro o; rw [← hW]; exact CeA
 have HX_C := Lib.hid (show Bn W0 (w.heap.size + 1) by rw [← hW]; exact KpA)
 have k_R_0 : W0.cell? ⟨w.heap.size + 2, 0, none⟩ = some (.bool false) := by rw [← hW]; exact CeA
 have k_R_1 : W0.cell? ⟨w.heap.size + 2, 1, none⟩ = some (.slice none 0 0) := by rw [← hW]; exact CeA
 have k_R_2 : W0.cell? ⟨w.heap.size + 2, 2, none⟩ = some (.slice none 0 0) := by rw [← hW]; exact CeA
 have f_R : ∀ o, W0.frozen? ⟨w.heap.size + 2, o, none⟩ = false := by intro o; rw [← hW]; exact CeA
 have HX_R := Lib.hid (show Bn W0 (w.heap.size + 2) by rw [← hW]; exact KpA)
 replace H := Lib.hid (H.out.keep HK_W0.out)
 replace H' := Lib.hid (H'.out.keep HK_W0.out)
 replace HB := Lib.hid (show Below w.heap.size w W0 by rw [← hW]; exact BlA)
 replace hN : N ≤ W0.heap.size := by rw [← hW]; exact OmT
 have hs0 : w.heap.size ≤ W0.heap.size := by rw [← hW]; exact OmT
 have hl_A : w.heap.size < W0.heap.size := by rw [← hW]; exact OmT
 have hl_C : w.heap.size + 1 < W0.heap.size := by rw [← hW]; exact OmT
 have hl_R : w.heap.size + 2 < W0.heap.size := by rw [← hW]; exact OmT
 clear hW HK_W0
 go_region_held3 (fun w' => w'.cell? ⟨w.heap.size, 0, none⟩ = some (.bool s) ∧ w'.cell? ⟨w.heap.size, 1, none⟩ = some (.slice a na ca) ∧ w'.cell? ⟨w.heap.size, 2, none⟩ = some (.slice d nd cd) ∧ w'.cell? ⟨w.heap.size + 1, 0, none⟩ = some (.bool s') ∧ w'.cell? ⟨w.heap.size + 1, 1, none⟩ = some (.slice a' na' ca') ∧ w'.cell? ⟨w.heap.size + 1, 2, none⟩ = some (.slice d' nd' cd'))
  (first | (go_keep; done) | ((try dsimp only); (repeat' apply And.intro) <;> (first | (go_keep; done) | (exact cell_keep_alloc_drew (by first | omega | (simp; omega)) (by first | assumption | go_simp)) | (exact cell_keep_alloc (by first | omega | (simp; omega)) (by first | assumption | go_simp)) | (rw [cell_set2 _ _ _ _ _ _ _ _ (by omega)]; assumption) | (rw [cell_set3 _ _ _ _ _ _ _ _ _ _ (by omega)]; assumption))))
  (first
   | (go_at_call 90; refine (xrneg_any (N := N) _ _ _ _ _ _ _ L' q' _ (by exact hN) (by exact H'.out) (by omega) p1 HP1.out).mono ?_; rintro e wa ⟨rn, cn, rn2, cn2, rfl, hn, hn', hb⟩; replace hb : Below W0.heap.size W0 wa := (by first | exact hb | exact bel_of_drew hb); have hs_wa : W0.heap.size ≤ wa.heap.size := hb.size; replace k_A_0 : wa.cell? ⟨w.heap.size, 0, none⟩ = some (.bool s) := (hb.cell (p := ⟨w.heap.size, 0, none⟩) hl_A).trans k_A_0; replace k_A_1 : wa.cell? ⟨w.heap.size, 1, none⟩ = some (.slice a na ca) := (hb.cell (p := ⟨w.heap.size, 1, none⟩) hl_A).trans k_A_1; replace k_A_2 : wa.cell? ⟨w.heap.size, 2, none⟩ = some (.slice d nd cd) := (hb.cell (p := ⟨w.heap.size, 2, none⟩) hl_A).trans k_A_2; replace f_A : ∀ o, wa.frozen? ⟨w.heap.size, o, none⟩ = false := fun o => (hb.frozen (p := ⟨w.heap.size, o, none⟩) hl_A).trans (f_A o); replace HX_A := Lib.hid (HX_A.out.below hb); replace k_C_0 : wa.cell? ⟨w.heap.size + 1, 0, none⟩ = some (.bool s') := (hb.cell (p := ⟨w.heap.size + 1, 0, none⟩) hl_C).trans k_C_0; replace k_C_1 : wa.cell? ⟨w.heap.size + 1, 1, none⟩ = some (.slice a' na' ca') := (hb.cell (p := ⟨w.heap.size + 1, 1, none⟩) hl_C).trans k_C_1; replace k_C_2 : wa.cell? ⟨w.heap.size + 1, 2, none⟩ = some (.slice d' nd' cd') := (hb.cell (p := ⟨w.heap.size + 1, 2, none⟩) hl_C).trans k_C_2; replace f_C : ∀ o, wa.frozen? ⟨w.heap.size + 1, o, none⟩ = false := fun o => (hb.frozen (p := ⟨w.heap.size + 1, o, none⟩) hl_C).trans (f_C o); replace HX_C := Lib.hid (HX_C.out.below hb); replace k_R_0 : wa.cell? ⟨w.heap.size + 2, 0, none⟩ = some (.bool false) := (hb.cell (p := ⟨w.heap.size + 2, 0, none⟩) hl_R).trans k_R_0; replace k_R_1 : wa.cell? ⟨w.heap.size + 2, 1, none⟩ = some (.slice none 0 0) := (hb.cell (p := ⟨w.heap.size + 2, 1, none⟩) hl_R).trans k_R_1; replace k_R_2 : wa.cell? ⟨w.heap.size + 2, 2, none⟩ = some (.slice none 0 0) := (hb.cell (p := ⟨w.heap.size + 2, 2, none⟩) hl_R).trans k_R_2; replace f_R : ∀ o, wa.frozen? ⟨w.heap.size + 2, o, none⟩ = false := fun o => (hb.frozen (p := ⟨w.heap.size + 2, o, none⟩) hl_R).trans (f_R o); replace HX_R := Lib.hid (HX_R.out.below hb); replace H := Lib.hid (H.out.below hb); replace H' := Lib.hid (H'.out.below hb); replace HB := Lib.hid (HB.out.trans (hb.mono hs0)); replace hN : N ≤ wa.heap.size := Nat.le_trans hN hb.size; replace hs0 : w.heap.size ≤ wa.heap.size := Nat.le_trans hs0 hb.size; replace hl_A : w.heap.size < wa.heap.size := Nat.lt_of_lt_of_le hl_A hb.size; replace hl_C : w.heap.size + 1 < wa.heap.size := Nat.lt_of_lt_of_le hl_C hb.size; replace hl_R : w.heap.size + 2 < wa.heap.size := Nat.lt_of_lt_of_le hl_R hb.size; clear hb; have HN1 := Lib.hid hn; clear hn; have HN2 := Lib.hid hn'; clear hn'; skip)
   | (go_at_call 66; refine (xradd_any (N := N) _ _ _ _ _ _ _ _ _ _ _ _ _ _ L L' q p1 _ (by exact hN) (by exact H.out) (by exact Rt.of_norm HN1.out HN2.out L' HSZ.out) (by omega) (by omega) p HP.out).mono ?_; rintro e wb ⟨rx, cx, rx2, cx2, rfl, hn, hn', hb⟩; replace hb : Below wa.heap.size wa wb := (by first | exact hb | exact bel_of_drew hb); have hs_wb : wa.heap.size ≤ wb.heap.size := hb.size; replace k_A_0 : wb.cell? ⟨w.heap.size, 0, none⟩ = some (.bool s) := (hb.cell (p := ⟨w.heap.size, 0, none⟩) hl_A).trans k_A_0; replace k_A_1 : wb.cell? ⟨w.heap.size, 1, none⟩ = some (.slice a na ca) := (hb.cell (p := ⟨w.heap.size, 1, none⟩) hl_A).trans k_A_1; replace k_A_2 : wb.cell? ⟨w.heap.size, 2, none⟩ = some (.slice d nd cd) := (hb.cell (p := ⟨w.heap.size, 2, none⟩) hl_A).trans k_A_2; replace f_A : ∀ o, wb.frozen? ⟨w.heap.size, o, none⟩ = false := fun o => (hb.frozen (p := ⟨w.heap.size, o, none⟩) hl_A).trans (f_A o); replace HX_A := Lib.hid (HX_A.out.below hb); replace k_C_0 : wb.cell? ⟨w.heap.size + 1, 0, none⟩ = some (.bool s') := (hb.cell (p := ⟨w.heap.size + 1, 0, none⟩) hl_C).trans k_C_0; replace k_C_1 : wb.cell? ⟨w.heap.size + 1, 1, none⟩ = some (.slice a' na' ca') := (hb.cell (p := ⟨w.heap.size + 1, 1, none⟩) hl_C).trans k_C_1; replace k_C_2 : wb.cell? ⟨w.heap.size + 1, 2, none⟩ = some (.slice d' nd' cd') := (hb.cell (p := ⟨w.heap.size + 1, 2, none⟩) hl_C).trans k_C_2; replace f_C : ∀ o, wb.frozen? ⟨w.heap.size + 1, o, none⟩ = false := fun o => (hb.frozen (p := ⟨w.heap.size + 1, o, none⟩) hl_C).trans (f_C o); replace HX_C := Lib.hid (HX_C.out.below hb); replace k_R_0 : wb.cell? ⟨w.heap.size + 2, 0, none⟩ = some (.bool false) := (hb.cell (p := ⟨w.heap.size + 2, 0, none⟩) hl_R).trans k_R_0; replace k_R_1 : wb.cell? ⟨w.heap.size + 2, 1, none⟩ = some (.slice none 0 0) := (hb.cell (p := ⟨w.heap.size + 2, 1, none⟩) hl_R).trans k_R_1; replace k_R_2 : wb.cell? ⟨w.heap.size + 2, 2, none⟩ = some (.slice none 0 0) := (hb.cell (p := ⟨w.heap.size + 2, 2, none⟩) hl_R).trans k_R_2; replace f_R : ∀ o, wb.frozen? ⟨w.heap.size + 2, o, none⟩ = false := fun o => (hb.frozen (p := ⟨w.heap.size + 2, o, none⟩) hl_R).trans (f_R o); replace HX_R := Lib.hid (HX_R.out.below hb); replace H := Lib.hid (H.out.below hb); replace H' := Lib.hid (H'.out.below hb); replace HN1 := Lib.hid (HN1.out.below hb); replace HN2 := Lib.hid (HN2.out.below hb); replace HB := Lib.hid (HB.out.trans (hb.mono hs0)); replace hN : N ≤ wb.heap.size := Nat.le_trans hN hb.size; replace hs0 : w.heap.size ≤ wb.heap.size := Nat.le_trans hs0 hb.size; replace hl_A : w.heap.size < wb.heap.size := Nat.lt_of_lt_of_le hl_A hb.size; replace hl_C : w.heap.size + 1 < wb.heap.size := Nat.lt_of_lt_of_le hl_C hb.size; replace hl_R : w.heap.size + 2 < wb.heap.size := Nat.lt_of_lt_of_le hl_R hb.size; clear hb; have HX1 := Lib.hid hn; clear hn; have HX2 := Lib.hid hn'; clear hn'; skip))
 go_wp2_with fail
 refine bodyPost_ret (v := .agg #[.bool (decide ((p).num < 0)), .slice rx (nlen (p).num.natAbs) cx, .slice rx2 (nlen (p).den) cx2]) (by simp [results, Tryz.results65, go_sem, k_R_0, k_R_1, k_R_2]) rfl ⟨_, _, _, _, rfl, HX1.out.keep ?_, HX2.out.keep ?_, ?_⟩
 all_goals exact KBA
end Go.Proofs.YtjobopafcgnljaaGreat
