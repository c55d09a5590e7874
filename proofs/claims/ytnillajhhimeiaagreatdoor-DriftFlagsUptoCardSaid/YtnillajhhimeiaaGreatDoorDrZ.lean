import Derived.Test.YtnillajhhimeiaaGreatDoorDrY
namespace Go.Proofs.YtnillajhhimeiaaGreatDoor
open Go.RowKit
theorem cell_threeA (w : World) (b : Nat) (hb : b = w.heap.size) (x y z : Value) (t : TypeId) : ∀ j u, [x, y, z][j]? = some u → (w.alloc (.cells #[x, y, z] t)).cell? ((⟨b, 0, none⟩ : Addr).add j) = some u := by
  subst hb; exact cell_three w x y z t
theorem cell_oneA (w : World) (b : Nat) (hb : b = w.heap.size) (x : Value) (t : TypeId) : ∀ j u, [x][j]? = some u → (w.alloc (.cells #[x] t)).cell? ((⟨b, 0, none⟩ : Addr).add j) = some u := by
  subst hb; exact cell_oneB w x t
theorem fsh_prb {t : Nat → Nat → Int} {n : Nat} (h : ∀ j, j < n → vldR t j = true) : ∀ j, j < n → prb (fsh t j) = true := fun j hj => by
  obtain ⟨x0, _, xl0, et0⟩ := vld_nat (h j hj) 0 (by omega)
  obtain ⟨x1, _, xl1, et1⟩ := vld_nat (h j hj) 1 (by omega)
  obtain ⟨x2, _, xl2, et2⟩ := vld_nat (h j hj) 2 (by omega)
  obtain ⟨x3, _, xl3, et3⟩ := vld_nat (h j hj) 3 (by omega)
  have := fish_range x0 x1 x2 x3 (by omega)
  unfold prb fsh
  rw [et0, et1, et2, et3]
  exact decide_eq_true ⟨Rat.le_of_lt this.1, this.2⟩
theorem fsh_len {t : Nat → Nat → Int} {n : Nat} (h : ∀ j, j < n → vldR t j = true) : ∀ j, j < n → rsz (fsh t j) ≤ 14 := fun j hj => by
  obtain ⟨x0, _, xl0, et0⟩ := vld_nat (h j hj) 0 (by omega)
  obtain ⟨x1, _, xl1, et1⟩ := vld_nat (h j hj) 1 (by omega)
  obtain ⟨x2, _, xl2, et2⟩ := vld_nat (h j hj) 2 (by omega)
  obtain ⟨x3, _, xl3, et3⟩ := vld_nat (h j hj) 3 (by omega)
  have := fish_len x0 x1 x2 x3 (by omega)
  unfold fsh
  rw [et0, et1, et2, et3]
  omega
theorem Oz.made (w : World) : Oz w.heap.size (w.alloc (.cells #[] 3)) (.slice (some ⟨w.heap.size, 0, none⟩) 0 0) [] := World.ownsRow_made w #[] 0 (Nat.le_refl _) (by decide) rfl
set_option maxHeartbeats 1000000 in
theorem xflags_long {N : Nat} (a : Option Addr) (n cap : Nat) (t : Nat → Nat → Int) (s2 : Bool) (a2 d2 : Option Addr) (na2 ca2 nd2 cd2 L : Nat) (al : Rat) (w : World) (_hN : N ≤ w.heap.size) (h : Ts w a n cap t) (_h2 : Rt N w s2 a2 na2 ca2 d2 nd2 cd2 al L) (_hL : L ≤ 2097152) (hn : 60 < n) :
    Calls Tryz.prog 20 #[.slice a n cap, .agg #[.bool s2, .slice a2 na2 ca2, .slice d2 nd2 cd2]] w (ErrPost w 5) := by
  have bc := h.1
  have bm := h.2.1
  unfold maxLen at bm
  clear h
  go_enter Tryz.func20, Tryz.ntmps20
  go_wp2_with fail
  go_ret2
  exact ⟨rfl, bel1 _ _⟩
set_option maxHeartbeats 8000000 in
set_option maxRecDepth 100000 in
theorem xflags_bad {N : Nat} (a : Option Addr) (n cap : Nat) (t : Nat → Nat → Int) (s2 : Bool) (a2 d2 : Option Addr) (na2 ca2 nd2 cd2 L : Nat) (al : Rat) (w : World) (hN : N ≤ w.heap.size) (h : Ts w a n cap t) (h2 : Rt N w s2 a2 na2 ca2 d2 nd2 cd2 al L) (hL : L ≤ 2097152) (c : Int) (hc : flgC t n al = c) (h0 : c ≠ 0) :
    Calls Tryz.prog 20 #[.slice a n cap, .agg #[.bool s2, .slice a2 na2 ca2, .slice d2 nd2 cd2]] w (ErrPost w c) := by
  rcases Nat.lt_or_ge 60 n with h60 | h60
  · rw [show c = 5 by rw [← hc]; unfold flgC; rw [if_pos h60]]
    exact xflags_long a n cap t s2 a2 d2 na2 ca2 nd2 cd2 L al w hN h h2 hL h60
  unfold flgC at hc
  rw [if_neg (by omega)] at hc
  have HCC := Lib.hid hc
  clear hc
  have HA := Lib.hid h
  have HAA := Lib.hid h2
  have bc := h.1
  have bm := h.2.1
  unfold maxLen at bm
  clear h h2
  have hN0 := hN
  have HB := Lib.hid (Below.refl w.heap.size w)
  obtain ⟨i0, hi, hzz⟩ := Option.map_eq_some_iff.1 Tryz.infoRat
  simp only [Prod.mk.injEq] at hzz
  obtain ⟨hz0, hz1, hz2⟩ := hzz
  obtain ⟨W0, hW⟩ : ∃ W0, w.alloc (.cells #[.bool s2, .slice a2 na2 ca2, .slice d2 nd2 cd2] 29) = W0 := ⟨_, rfl⟩
  have hs_W0 : w.heap.size ≤ W0.heap.size := by rw [← hW]; (first | omega | (simp; done) | (simp; omega))
  have HL_W0 := Lib.hid (show Below w.heap.size w W0 by rw [← hW]; exact BlA)
  have k_A_0 : W0.cell? ⟨w.heap.size, 0, none⟩ = some (.bool s2) := by rw [← hW]; (first | (go_simp; done) | (simp; done) | (simp [go_sem]; done) | (simp [go_sem]; done))
  have k_A_1 : W0.cell? ⟨w.heap.size, 1, none⟩ = some (.slice a2 na2 ca2) := by rw [← hW]; (first | (go_simp; done) | (simp; done) | (simp [go_sem]; done) | (simp [go_sem]; done))
  have k_A_2 : W0.cell? ⟨w.heap.size, 2, none⟩ = some (.slice d2 nd2 cd2) := by rw [← hW]; (first | (go_simp; done) | (simp; done) | (simp [go_sem]; done) | (simp [go_sem]; done))
  have f_A : ∀ o, W0.frozen? ⟨w.heap.size, o, none⟩ = false := by intro o; rw [← hW]; (first | (go_simp; done) | (simp; done) | (simp [go_sem]; done) | (simp [go_sem]; done))
  have HX_A := Lib.hid (show Bn W0 (w.heap.size) by rw [← hW]; exact KpA)
  replace HB := Lib.hid (show Below w.heap.size w W0 by rw [← hW]; exact BlA)
  replace hN : N ≤ W0.heap.size := by rw [← hW]; (first | omega | (simp; done) | (simp; omega))
  have hs0 : w.heap.size ≤ W0.heap.size := by rw [← hW]; (first | omega | (simp; done) | (simp; omega))
  have hl_A : w.heap.size < W0.heap.size := by rw [← hW]; (first | omega | (simp; done) | (simp; omega))
  replace HA := Lib.hid (HA.out.below HL_W0.out)
  replace HAA := Lib.hid (HAA.out.below HL_W0.out)
  clear HL_W0
  go_enter Tryz.func20, Tryz.ntmps20
  go_wp2_with fail
  clear hW
  have hNw := hN
  go_loopw [6, 7] (fun v i wr => ∃ k : Nat, k ≤ n ∧ i = .int .i64 k ∧ Ol N W0.heap.size wr v k (fsh t) ∧ Hid (∀ j, j < k → vldR t j = true) ∧ Below W0.heap.size W0 wr) (fun _ i _ => n - (intOf i).toNat)
  case atStart => exact ⟨0, Nat.zero_le _, rfl, Ol.start _ _ _ _ (Nat.le_refl _), Lib.hid (fun j hj => by omega), bel1 _ _⟩
  case round =>
    obtain ⟨k, hk, rfl, hol, hin, hbel⟩ := hrel
    have HOL := Lib.hid hol
    have HBJ := Lib.hid hbel
    have hsj := hbel.size
    clear hol
    have hl_A' : w.heap.size < wr.heap.size := Nat.lt_of_lt_of_le hl_A hbel.size
    have k_A_0' : wr.cell? ⟨w.heap.size, 0, none⟩ = some (.bool s2) := (hbel.cell (p := ⟨w.heap.size, 0, none⟩) hl_A).trans k_A_0
    have k_A_1' : wr.cell? ⟨w.heap.size, 1, none⟩ = some (.slice a2 na2 ca2) := (hbel.cell (p := ⟨w.heap.size, 1, none⟩) hl_A).trans k_A_1
    have k_A_2' : wr.cell? ⟨w.heap.size, 2, none⟩ = some (.slice d2 nd2 cd2) := (hbel.cell (p := ⟨w.heap.size, 2, none⟩) hl_A).trans k_A_2
    have f_A' : ∀ o, wr.frozen? ⟨w.heap.size, o, none⟩ = false := fun o => (hbel.frozen (p := ⟨w.heap.size, o, none⟩) hl_A).trans (f_A o)
    have HX_A' := Lib.hid (HX_A.out.below hbel)
    clear hl_A f_A HX_A k_A_0 k_A_1 k_A_2
    have hl_A := hl_A'
    have f_A := f_A'
    have HX_A := HX_A'
    have k_A_0 := k_A_0'
    have k_A_1 := k_A_1'
    have k_A_2 := k_A_2'
    clear hl_A' f_A' HX_A' k_A_0' k_A_1' k_A_2'
    have HA' := Lib.hid (HA.out.below hbel)
    have HAA' := Lib.hid (HAA.out.below hbel)
    clear HA HAA
    have HA := HA'
    have HAA := HAA'
    clear HA' HAA'
    have HB' := Lib.hid (HB.out.trans (hbel.mono hs0))
    have hN' : N ≤ wr.heap.size := by have := hbel.size; omega
    have hs0' : w.heap.size ≤ wr.heap.size := by have := hbel.size; omega
    clear HB hN hs0
    have HB := HB'
    have hN := hN'
    have hs0 := hs0'
    clear HB' hN' hs0'
    clear hbel
    by_cases hkn : k < n
    · obtain ⟨b, off, rfl, hc⟩ := HA.out.2.2 (by omega)
      obtain ⟨g0, g1, g2, g3⟩ := hc k hkn
      have hkz : (k : Int) < (n : Int) := by omega
      clear hc HA
      rcases Bool.eq_false_or_eq_true (vldR t k) with hvk | hvk
      · have HVK := Lib.hid hvk
        clear hvk
        obtain ⟨x0, ex0, xl0, et0⟩ := vld_nat HVK.out 0 (by omega)
        obtain ⟨x1, ex1, xl1, et1⟩ := vld_nat HVK.out 1 (by omega)
        obtain ⟨x2, ex2, xl2, et2⟩ := vld_nat HVK.out 2 (by omega)
        obtain ⟨x3, ex3, xl3, et3⟩ := vld_nat HVK.out 3 (by omega)
        have HFS := Lib.hid (show fishQ x0 x1 x2 x3 = fsh t k by unfold fsh; rw [et0, et1, et2, et3])
        rw [ex0] at g0
        rw [ex1] at g1
        rw [ex2] at g2
        rw [ex3] at g3
        clear ex0 ex1 ex2 ex3 et0 et1 et2 et3
        go_wp2_with fail
        refine calls_name fun W1 hW => ?_
        have HL_W1 := Lib.hid (show Below wr.heap.size wr W1 by rw [← hW]; exact BlA)
        have hs_W1 : wr.heap.size ≤ W1.heap.size := by rw [← hW]; (first | omega | (simp; done) | (simp; omega))
        have HBJ_W1 := Lib.hid (show Below W0.heap.size W0 W1 by rw [← hW]; exact HBJ.out)
        replace k_A_0 : W1.cell? ⟨w.heap.size, 0, none⟩ = some (.bool s2) := (HL_W1.out.cell (p := ⟨w.heap.size, 0, none⟩) hl_A).trans k_A_0
        replace k_A_1 : W1.cell? ⟨w.heap.size, 1, none⟩ = some (.slice a2 na2 ca2) := (HL_W1.out.cell (p := ⟨w.heap.size, 1, none⟩) hl_A).trans k_A_1
        replace k_A_2 : W1.cell? ⟨w.heap.size, 2, none⟩ = some (.slice d2 nd2 cd2) := (HL_W1.out.cell (p := ⟨w.heap.size, 2, none⟩) hl_A).trans k_A_2
        replace f_A : ∀ o, W1.frozen? ⟨w.heap.size, o, none⟩ = false := fun o => (HL_W1.out.frozen (p := ⟨w.heap.size, o, none⟩) hl_A).trans (f_A o)
        replace HX_A := Lib.hid (show Bn W1 (w.heap.size) by rw [← hW]; exact KpA)
        replace HB := Lib.hid (show Below w.heap.size w W1 by rw [← hW]; exact BlA)
        replace hN : N ≤ W1.heap.size := by rw [← hW]; (first | omega | (simp; done) | (simp; omega))
        replace hs0 : w.heap.size ≤ W1.heap.size := by rw [← hW]; (first | omega | (simp; done) | (simp; omega))
        replace hl_A : w.heap.size < W1.heap.size := by rw [← hW]; (first | omega | (simp; done) | (simp; omega))
        replace HAA := Lib.hid (HAA.out.below HL_W1.out)
        replace HOL := Lib.hid (HOL.out.below HL_W1.out)
        clear HL_W1
        clear hW
        refine (xfisher_ok (N := N) x0 x1 x2 x3 _ hN xl0 xl1 xl2 xl3 (fsh t k) HFS.out).mono ?_
        rintro e wb ⟨rx, cx, rx2, cx2, rfl, hn, hn', hb⟩
        have HBJb := Lib.hid (HBJ_W1.out.trans (hb.mono (by omega)))
        have hs_wb : W1.heap.size ≤ wb.heap.size := hb.size
        replace k_A_0 : wb.cell? ⟨w.heap.size, 0, none⟩ = some (.bool s2) := (hb.cell (p := ⟨w.heap.size, 0, none⟩) hl_A).trans k_A_0
        replace k_A_1 : wb.cell? ⟨w.heap.size, 1, none⟩ = some (.slice a2 na2 ca2) := (hb.cell (p := ⟨w.heap.size, 1, none⟩) hl_A).trans k_A_1
        replace k_A_2 : wb.cell? ⟨w.heap.size, 2, none⟩ = some (.slice d2 nd2 cd2) := (hb.cell (p := ⟨w.heap.size, 2, none⟩) hl_A).trans k_A_2
        replace f_A : ∀ o, wb.frozen? ⟨w.heap.size, o, none⟩ = false := fun o => (hb.frozen (p := ⟨w.heap.size, o, none⟩) hl_A).trans (f_A o)
        replace HX_A := Lib.hid (HX_A.out.below hb)
        replace HB := Lib.hid (HB.out.trans (hb.mono hs0))
        replace hN : N ≤ wb.heap.size := Nat.le_trans hN hb.size
        replace hs0 : w.heap.size ≤ wb.heap.size := Nat.le_trans hs0 hb.size
        replace hl_A : w.heap.size < wb.heap.size := Nat.lt_of_lt_of_le hl_A hb.size
        replace HAA := Lib.hid (HAA.out.below hb)
        replace HOL := Lib.hid (HOL.out.below hb)
        clear hb
        have HX1 := Lib.hid hn
        clear hn
        have HX2 := Lib.hid hn'
        clear hn'
        have hsb := HBJb.out.size
        obtain ⟨xs, hown, hcl⟩ := HOL.out
        have HO := Lib.hid hown
        have HC := Lib.hid hcl
        clear hown hcl
        go_wp2_with (at_builtin; refine wpList_append_own_at _ rfl (.tmp 35) (.tmp 37) 38 rfl W0.heap.size 29 i0 (.agg #[.bool false, .slice none 0 0, .slice none 0 0]) 3 56 Tryz.underRats hi hz0 hz1 hz2 rfl (by decide) _ k xs rfl ((HO.out.alloc _).alloc _) ⟨wb.heap.size + 1, 0, none⟩ 1 1 [.bool (decide ((fsh t k).num < 0)), .slice rx (nlen (fsh t k).num.natAbs) cx, .slice rx2 (nlen (fsh t k).den) cx2] rfl rfl (cell_threeA (wb.alloc (.cells #[.bool (decide ((fsh t k).num < 0)), .slice rx (nlen (fsh t k).num.natAbs) cx, .slice rx2 (nlen (fsh t k).den) cx2] 29)) _ (by simp) _ _ _ _) (by intro u hu; simp at hu; rcases hu with rfl | rfl | rfl <;> rfl) (by unfold maxLen; omega) (by omega) (by simp; omega) ?_; intro v1 w1 ho1 hg1 _ _; have KP1 := Lib.hid (((Kp.refl N wb).alloc (.cells #[.bool (decide ((fsh t k).num < 0)), .slice rx (nlen (fsh t k).num.natAbs) cx, .slice rx2 (nlen (fsh t k).den) cx2] 29)).alloc (.cells #[.bool (decide ((fsh t k).num < 0)), .slice rx (nlen (fsh t k).num.natAbs) cx, .slice rx2 (nlen (fsh t k).den) cx2] 29) |>.trans (own_kp ((HO.out.alloc _).alloc _) hNw hg1)); have HB1 := Lib.hid (own_bel ((HO.out.alloc _).alloc _) ((HBJb.out.alloc hsb _).alloc (by simp; omega) _) (by simp; omega) hg1); have HO1 := Lib.hid ho1; have HC1 := Lib.hid (Cl.push (HC.out.imp fun i v0 v1 v2 _ e => e.keep KP1.out) (show En N w1 (fsh t) k _ _ _ from ⟨_, _, _, _, rfl, rfl, rfl, HX1.out.keep KP1.out, HX2.out.keep KP1.out⟩)); clear ho1 hg1)
        go_roundw
        case rel => exact ⟨k + 1, by omega, by go_num, ⟨_, HO1.out, HC1.out⟩, Lib.hid (all_succ hin.out HVK.out), HB1.out⟩
        case measure => simp [intOf]; omega
      · have HVK := Lib.hid hvk
        clear hvk HOL
        go_wp2_with fail
        refine calls_name fun W1 hW => ?_
        have HL_W1 := Lib.hid (show Below wr.heap.size wr W1 by rw [← hW]; exact BlA)
        have hs_W1 : wr.heap.size ≤ W1.heap.size := by rw [← hW]; (first | omega | (simp; done) | (simp; omega))
        replace k_A_0 : W1.cell? ⟨w.heap.size, 0, none⟩ = some (.bool s2) := (HL_W1.out.cell (p := ⟨w.heap.size, 0, none⟩) hl_A).trans k_A_0
        replace k_A_1 : W1.cell? ⟨w.heap.size, 1, none⟩ = some (.slice a2 na2 ca2) := (HL_W1.out.cell (p := ⟨w.heap.size, 1, none⟩) hl_A).trans k_A_1
        replace k_A_2 : W1.cell? ⟨w.heap.size, 2, none⟩ = some (.slice d2 nd2 cd2) := (HL_W1.out.cell (p := ⟨w.heap.size, 2, none⟩) hl_A).trans k_A_2
        replace f_A : ∀ o, W1.frozen? ⟨w.heap.size, o, none⟩ = false := fun o => (HL_W1.out.frozen (p := ⟨w.heap.size, o, none⟩) hl_A).trans (f_A o)
        replace HX_A := Lib.hid (show Bn W1 (w.heap.size) by rw [← hW]; exact KpA)
        replace HB := Lib.hid (show Below w.heap.size w W1 by rw [← hW]; exact BlA)
        replace hN : N ≤ W1.heap.size := by rw [← hW]; (first | omega | (simp; done) | (simp; omega))
        replace hs0 : w.heap.size ≤ W1.heap.size := by rw [← hW]; (first | omega | (simp; done) | (simp; omega))
        replace hl_A : w.heap.size < W1.heap.size := by rw [← hW]; (first | omega | (simp; done) | (simp; omega))
        clear HL_W1
        clear hW
        refine (xfisher_bad (N := N) _ _ _ _ _ hN HVK.out).mono ?_
        rintro e wb ⟨rfl, hb⟩
        have hs_wb : W1.heap.size ≤ wb.heap.size := hb.size
        replace k_A_0 : wb.cell? ⟨w.heap.size, 0, none⟩ = some (.bool s2) := (hb.cell (p := ⟨w.heap.size, 0, none⟩) hl_A).trans k_A_0
        replace k_A_1 : wb.cell? ⟨w.heap.size, 1, none⟩ = some (.slice a2 na2 ca2) := (hb.cell (p := ⟨w.heap.size, 1, none⟩) hl_A).trans k_A_1
        replace k_A_2 : wb.cell? ⟨w.heap.size, 2, none⟩ = some (.slice d2 nd2 cd2) := (hb.cell (p := ⟨w.heap.size, 2, none⟩) hl_A).trans k_A_2
        replace f_A : ∀ o, wb.frozen? ⟨w.heap.size, o, none⟩ = false := fun o => (hb.frozen (p := ⟨w.heap.size, o, none⟩) hl_A).trans (f_A o)
        replace HX_A := Lib.hid (HX_A.out.below hb)
        replace HB := Lib.hid (HB.out.trans (hb.mono hs0))
        replace hN : N ≤ wb.heap.size := Nat.le_trans hN hb.size
        replace hs0 : w.heap.size ≤ wb.heap.size := Nat.le_trans hs0 hb.size
        replace hl_A : w.heap.size < wb.heap.size := Nat.lt_of_lt_of_le hl_A hb.size
        clear hb
        go_wp2_with fail
        have ec : c = 3 := by rw [← HCC.out, if_neg (fun hh => absurd ((hh.1 k hkn).symm.trans HVK.out) (by decide))]
        go_ret2
        exact ⟨by rw [ec]; rfl, HB.out.alloc hs0 _⟩
    · obtain rfl : n = k := by omega
      have HPR := Lib.hid (fsh_prb hin.out)
      have HLN := Lib.hid (fsh_len hin.out)
      obtain ⟨xs, hown, hcl⟩ := HOL.out
      obtain ⟨ao, co, rfl, hrn⟩ := Cl.rn hown hcl
      have HRN := Lib.hid (hrn.rs (max L 14) (fun j hj => Nat.le_trans (HLN.out j hj) (by omega)))
      clear hown hcl HOL hrn
      have HPA : Hid (prb al = false) := Lib.hid (by
        rcases Bool.eq_false_or_eq_true (prb al) with e | e
        · exact absurd (HCC.out.symm.trans (if_pos ⟨hin.out, e⟩)) h0
        · exact e)
      have HCK := Lib.hid (show chkC (fsh t) n al = 3 by unfold chkC; rw [if_neg (by omega), if_neg (fun hh => absurd (hh.2.symm.trans HPA.out) (by decide))])
      go_wp2_with fail
      refine calls_name fun W2 hW => ?_
      have HL_W2 := Lib.hid (show Below wr.heap.size wr W2 by rw [← hW]; exact BlA)
      have hs_W2 : wr.heap.size ≤ W2.heap.size := by rw [← hW]; (first | omega | (simp; done) | (simp; omega))
      replace k_A_0 : W2.cell? ⟨w.heap.size, 0, none⟩ = some (.bool s2) := (HL_W2.out.cell (p := ⟨w.heap.size, 0, none⟩) hl_A).trans k_A_0
      replace k_A_1 : W2.cell? ⟨w.heap.size, 1, none⟩ = some (.slice a2 na2 ca2) := (HL_W2.out.cell (p := ⟨w.heap.size, 1, none⟩) hl_A).trans k_A_1
      replace k_A_2 : W2.cell? ⟨w.heap.size, 2, none⟩ = some (.slice d2 nd2 cd2) := (HL_W2.out.cell (p := ⟨w.heap.size, 2, none⟩) hl_A).trans k_A_2
      replace f_A : ∀ o, W2.frozen? ⟨w.heap.size, o, none⟩ = false := fun o => (HL_W2.out.frozen (p := ⟨w.heap.size, o, none⟩) hl_A).trans (f_A o)
      replace HX_A := Lib.hid (show Bn W2 (w.heap.size) by rw [← hW]; exact KpA)
      replace HB := Lib.hid (show Below w.heap.size w W2 by rw [← hW]; exact BlA)
      replace hN : N ≤ W2.heap.size := by rw [← hW]; (first | omega | (simp; done) | (simp; omega))
      replace hs0 : w.heap.size ≤ W2.heap.size := by rw [← hW]; (first | omega | (simp; done) | (simp; omega))
      replace hl_A : w.heap.size < W2.heap.size := by rw [← hW]; (first | omega | (simp; done) | (simp; omega))
      replace HAA := Lib.hid (HAA.out.below HL_W2.out)
      replace HRN := Lib.hid (HRN.out.below HL_W2.out)
      clear HL_W2
      clear hW
      refine (xholm_bad (N := N) _ n _ (fsh t) _ _ _ _ _ _ _ (max L 14) al _ hN HRN.out (HAA.out.mono (by omega)) (by omega) 3 HCK.out (by decide)).mono ?_
      rintro e w9 ⟨rfl, hb⟩
      have hs_w9 : W2.heap.size ≤ w9.heap.size := hb.size
      replace k_A_0 : w9.cell? ⟨w.heap.size, 0, none⟩ = some (.bool s2) := (hb.cell (p := ⟨w.heap.size, 0, none⟩) hl_A).trans k_A_0
      replace k_A_1 : w9.cell? ⟨w.heap.size, 1, none⟩ = some (.slice a2 na2 ca2) := (hb.cell (p := ⟨w.heap.size, 1, none⟩) hl_A).trans k_A_1
      replace k_A_2 : w9.cell? ⟨w.heap.size, 2, none⟩ = some (.slice d2 nd2 cd2) := (hb.cell (p := ⟨w.heap.size, 2, none⟩) hl_A).trans k_A_2
      replace f_A : ∀ o, w9.frozen? ⟨w.heap.size, o, none⟩ = false := fun o => (hb.frozen (p := ⟨w.heap.size, o, none⟩) hl_A).trans (f_A o)
      replace HX_A := Lib.hid (HX_A.out.below hb)
      replace HB := Lib.hid (HB.out.trans (hb.mono hs0))
      replace hN : N ≤ w9.heap.size := Nat.le_trans hN hb.size
      replace hs0 : w.heap.size ≤ w9.heap.size := Nat.le_trans hs0 hb.size
      replace hl_A : w.heap.size < w9.heap.size := Nat.lt_of_lt_of_le hl_A hb.size
      replace HAA := Lib.hid (HAA.out.below hb)
      replace HRN := Lib.hid (HRN.out.below hb)
      clear hb
      go_wp2_with fail
      have ec : c = 3 := by rw [← HCC.out, if_neg (fun hh => absurd (hh.2.symm.trans HPA.out) (by decide))]
      go_ret2
      exact ⟨by rw [ec]; rfl, HB.out⟩
set_option maxHeartbeats 8000000 in
set_option maxRecDepth 100000 in
theorem xflags_ok {N : Nat} (a : Option Addr) (n cap : Nat) (t : Nat → Nat → Int) (s2 : Bool) (a2 d2 : Option Addr) (na2 ca2 nd2 cd2 L : Nat) (al : Rat) (w : World) (hN : N ≤ w.heap.size) (h : Ts w a n cap t) (h2 : Rt N w s2 a2 na2 ca2 d2 nd2 cd2 al L) (hL : L ≤ 2097152) (hc : flgC t n al = 0) :
    Calls Tryz.prog 20 #[.slice a n cap, .agg #[.bool s2, .slice a2 na2 ca2, .slice d2 nd2 cd2]] w (FlgPost w (flt (holQ (fsh t) n al) n)) := by
  have h60 : n ≤ 60 := by
    unfold flgC at hc
    rcases Nat.lt_or_ge 60 n with h | h
    · rw [if_pos h] at hc; omega
    · exact h
  unfold flgC at hc
  rw [if_neg (by omega)] at hc
  have hcc : (∀ i, i < n → vldR t i = true) ∧ prb al = true := Classical.byContradiction fun hh => by rw [if_neg hh] at hc; omega
  have HVL := Lib.hid hcc.1
  have HPA := Lib.hid hcc.2
  clear hc hcc
  have HA := Lib.hid h
  have HAA := Lib.hid h2
  have bc := h.1
  have bm := h.2.1
  unfold maxLen at bm
  clear h h2
  have hN0 := hN
  have HB := Lib.hid (Below.refl w.heap.size w)
  obtain ⟨i0, hi, hzz⟩ := Option.map_eq_some_iff.1 Tryz.infoRat
  simp only [Prod.mk.injEq] at hzz
  obtain ⟨hz0, hz1, hz2⟩ := hzz
  obtain ⟨W0, hW⟩ : ∃ W0, w.alloc (.cells #[.bool s2, .slice a2 na2 ca2, .slice d2 nd2 cd2] 29) = W0 := ⟨_, rfl⟩
  have hs_W0 : w.heap.size ≤ W0.heap.size := by rw [← hW]; (first | omega | (simp; done) | (simp; omega))
  have HL_W0 := Lib.hid (show Below w.heap.size w W0 by rw [← hW]; exact BlA)
  have k_A_0 : W0.cell? ⟨w.heap.size, 0, none⟩ = some (.bool s2) := by rw [← hW]; (first | (go_simp; done) | (simp; done) | (simp [go_sem]; done) | (simp [go_sem]; done))
  have k_A_1 : W0.cell? ⟨w.heap.size, 1, none⟩ = some (.slice a2 na2 ca2) := by rw [← hW]; (first | (go_simp; done) | (simp; done) | (simp [go_sem]; done) | (simp [go_sem]; done))
  have k_A_2 : W0.cell? ⟨w.heap.size, 2, none⟩ = some (.slice d2 nd2 cd2) := by rw [← hW]; (first | (go_simp; done) | (simp; done) | (simp [go_sem]; done) | (simp [go_sem]; done))
  have f_A : ∀ o, W0.frozen? ⟨w.heap.size, o, none⟩ = false := by intro o; rw [← hW]; (first | (go_simp; done) | (simp; done) | (simp [go_sem]; done) | (simp [go_sem]; done))
  have HX_A := Lib.hid (show Bn W0 (w.heap.size) by rw [← hW]; exact KpA)
  replace HB := Lib.hid (show Below w.heap.size w W0 by rw [← hW]; exact BlA)
  replace hN : N ≤ W0.heap.size := by rw [← hW]; (first | omega | (simp; done) | (simp; omega))
  have hs0 : w.heap.size ≤ W0.heap.size := by rw [← hW]; (first | omega | (simp; done) | (simp; omega))
  have hl_A : w.heap.size < W0.heap.size := by rw [← hW]; (first | omega | (simp; done) | (simp; omega))
  replace HA := Lib.hid (HA.out.below HL_W0.out)
  replace HAA := Lib.hid (HAA.out.below HL_W0.out)
  clear HL_W0
  go_enter Tryz.func20, Tryz.ntmps20
  go_wp2_with fail
  clear hW
  have hNw := hN
  go_loopw [6, 7] (fun v i wr => ∃ k : Nat, k ≤ n ∧ i = .int .i64 k ∧ Ol N W0.heap.size wr v k (fsh t) ∧ Hid (∀ j, j < k → vldR t j = true) ∧ Below W0.heap.size W0 wr) (fun _ i _ => n - (intOf i).toNat)
  case atStart => exact ⟨0, Nat.zero_le _, rfl, Ol.start _ _ _ _ (Nat.le_refl _), Lib.hid (fun j hj => by omega), bel1 _ _⟩
  case round =>
    obtain ⟨k, hk, rfl, hol, hin, hbel⟩ := hrel
    have HOL := Lib.hid hol
    have HBJ := Lib.hid hbel
    have hsj := hbel.size
    clear hol
    have hl_A' : w.heap.size < wr.heap.size := Nat.lt_of_lt_of_le hl_A hbel.size
    have k_A_0' : wr.cell? ⟨w.heap.size, 0, none⟩ = some (.bool s2) := (hbel.cell (p := ⟨w.heap.size, 0, none⟩) hl_A).trans k_A_0
    have k_A_1' : wr.cell? ⟨w.heap.size, 1, none⟩ = some (.slice a2 na2 ca2) := (hbel.cell (p := ⟨w.heap.size, 1, none⟩) hl_A).trans k_A_1
    have k_A_2' : wr.cell? ⟨w.heap.size, 2, none⟩ = some (.slice d2 nd2 cd2) := (hbel.cell (p := ⟨w.heap.size, 2, none⟩) hl_A).trans k_A_2
    have f_A' : ∀ o, wr.frozen? ⟨w.heap.size, o, none⟩ = false := fun o => (hbel.frozen (p := ⟨w.heap.size, o, none⟩) hl_A).trans (f_A o)
    have HX_A' := Lib.hid (HX_A.out.below hbel)
    clear hl_A f_A HX_A k_A_0 k_A_1 k_A_2
    have hl_A := hl_A'
    have f_A := f_A'
    have HX_A := HX_A'
    have k_A_0 := k_A_0'
    have k_A_1 := k_A_1'
    have k_A_2 := k_A_2'
    clear hl_A' f_A' HX_A' k_A_0' k_A_1' k_A_2'
    have HA' := Lib.hid (HA.out.below hbel)
    have HAA' := Lib.hid (HAA.out.below hbel)
    clear HA HAA
    have HA := HA'
    have HAA := HAA'
    clear HA' HAA'
    have HB' := Lib.hid (HB.out.trans (hbel.mono hs0))
    have hN' : N ≤ wr.heap.size := by have := hbel.size; omega
    have hs0' : w.heap.size ≤ wr.heap.size := by have := hbel.size; omega
    clear HB hN hs0
    have HB := HB'
    have hN := hN'
    have hs0 := hs0'
    clear HB' hN' hs0'
    clear hbel
    by_cases hkn : k < n
    · obtain ⟨b, off, rfl, hc⟩ := HA.out.2.2 (by omega)
      obtain ⟨g0, g1, g2, g3⟩ := hc k hkn
      have hkz : (k : Int) < (n : Int) := by omega
      clear hc HA
      have HVK := Lib.hid (HVL.out k hkn)
      obtain ⟨x0, ex0, xl0, et0⟩ := vld_nat HVK.out 0 (by omega)
      obtain ⟨x1, ex1, xl1, et1⟩ := vld_nat HVK.out 1 (by omega)
      obtain ⟨x2, ex2, xl2, et2⟩ := vld_nat HVK.out 2 (by omega)
      obtain ⟨x3, ex3, xl3, et3⟩ := vld_nat HVK.out 3 (by omega)
      have HFS := Lib.hid (show fishQ x0 x1 x2 x3 = fsh t k by unfold fsh; rw [et0, et1, et2, et3])
      rw [ex0] at g0
      rw [ex1] at g1
      rw [ex2] at g2
      rw [ex3] at g3
      clear ex0 ex1 ex2 ex3 et0 et1 et2 et3
      go_wp2_with fail
      refine calls_name fun W1 hW => ?_
      have HL_W1 := Lib.hid (show Below wr.heap.size wr W1 by rw [← hW]; exact BlA)
      have hs_W1 : wr.heap.size ≤ W1.heap.size := by rw [← hW]; (first | omega | (simp; done) | (simp; omega))
      have HBJ_W1 := Lib.hid (show Below W0.heap.size W0 W1 by rw [← hW]; exact HBJ.out)
      replace k_A_0 : W1.cell? ⟨w.heap.size, 0, none⟩ = some (.bool s2) := (HL_W1.out.cell (p := ⟨w.heap.size, 0, none⟩) hl_A).trans k_A_0
      replace k_A_1 : W1.cell? ⟨w.heap.size, 1, none⟩ = some (.slice a2 na2 ca2) := (HL_W1.out.cell (p := ⟨w.heap.size, 1, none⟩) hl_A).trans k_A_1
      replace k_A_2 : W1.cell? ⟨w.heap.size, 2, none⟩ = some (.slice d2 nd2 cd2) := (HL_W1.out.cell (p := ⟨w.heap.size, 2, none⟩) hl_A).trans k_A_2
      replace f_A : ∀ o, W1.frozen? ⟨w.heap.size, o, none⟩ = false := fun o => (HL_W1.out.frozen (p := ⟨w.heap.size, o, none⟩) hl_A).trans (f_A o)
      replace HX_A := Lib.hid (show Bn W1 (w.heap.size) by rw [← hW]; exact KpA)
      replace HB := Lib.hid (show Below w.heap.size w W1 by rw [← hW]; exact BlA)
      replace hN : N ≤ W1.heap.size := by rw [← hW]; (first | omega | (simp; done) | (simp; omega))
      replace hs0 : w.heap.size ≤ W1.heap.size := by rw [← hW]; (first | omega | (simp; done) | (simp; omega))
      replace hl_A : w.heap.size < W1.heap.size := by rw [← hW]; (first | omega | (simp; done) | (simp; omega))
      replace HAA := Lib.hid (HAA.out.below HL_W1.out)
      replace HOL := Lib.hid (HOL.out.below HL_W1.out)
      clear HL_W1
      clear hW
      refine (xfisher_ok (N := N) x0 x1 x2 x3 _ hN xl0 xl1 xl2 xl3 (fsh t k) HFS.out).mono ?_
      rintro e wb ⟨rx, cx, rx2, cx2, rfl, hn, hn', hb⟩
      have HBJb := Lib.hid (HBJ_W1.out.trans (hb.mono (by omega)))
      have hs_wb : W1.heap.size ≤ wb.heap.size := hb.size
      replace k_A_0 : wb.cell? ⟨w.heap.size, 0, none⟩ = some (.bool s2) := (hb.cell (p := ⟨w.heap.size, 0, none⟩) hl_A).trans k_A_0
      replace k_A_1 : wb.cell? ⟨w.heap.size, 1, none⟩ = some (.slice a2 na2 ca2) := (hb.cell (p := ⟨w.heap.size, 1, none⟩) hl_A).trans k_A_1
      replace k_A_2 : wb.cell? ⟨w.heap.size, 2, none⟩ = some (.slice d2 nd2 cd2) := (hb.cell (p := ⟨w.heap.size, 2, none⟩) hl_A).trans k_A_2
      replace f_A : ∀ o, wb.frozen? ⟨w.heap.size, o, none⟩ = false := fun o => (hb.frozen (p := ⟨w.heap.size, o, none⟩) hl_A).trans (f_A o)
      replace HX_A := Lib.hid (HX_A.out.below hb)
      replace HB := Lib.hid (HB.out.trans (hb.mono hs0))
      replace hN : N ≤ wb.heap.size := Nat.le_trans hN hb.size
      replace hs0 : w.heap.size ≤ wb.heap.size := Nat.le_trans hs0 hb.size
      replace hl_A : w.heap.size < wb.heap.size := Nat.lt_of_lt_of_le hl_A hb.size
      replace HAA := Lib.hid (HAA.out.below hb)
      replace HOL := Lib.hid (HOL.out.below hb)
      clear hb
      have HX1 := Lib.hid hn
      clear hn
      have HX2 := Lib.hid hn'
      clear hn'
      have hsb := HBJb.out.size
      obtain ⟨xs, hown, hcl⟩ := HOL.out
      have HO := Lib.hid hown
      have HC := Lib.hid hcl
      clear hown hcl
      go_wp2_with (at_builtin; refine wpList_append_own_at _ rfl (.tmp 35) (.tmp 37) 38 rfl W0.heap.size 29 i0 (.agg #[.bool false, .slice none 0 0, .slice none 0 0]) 3 56 Tryz.underRats hi hz0 hz1 hz2 rfl (by decide) _ k xs rfl ((HO.out.alloc _).alloc _) ⟨wb.heap.size + 1, 0, none⟩ 1 1 [.bool (decide ((fsh t k).num < 0)), .slice rx (nlen (fsh t k).num.natAbs) cx, .slice rx2 (nlen (fsh t k).den) cx2] rfl rfl (cell_threeA (wb.alloc (.cells #[.bool (decide ((fsh t k).num < 0)), .slice rx (nlen (fsh t k).num.natAbs) cx, .slice rx2 (nlen (fsh t k).den) cx2] 29)) _ (by simp) _ _ _ _) (by intro u hu; simp at hu; rcases hu with rfl | rfl | rfl <;> rfl) (by unfold maxLen; omega) (by omega) (by simp; omega) ?_; intro v1 w1 ho1 hg1 _ _; have KP1 := Lib.hid (((Kp.refl N wb).alloc (.cells #[.bool (decide ((fsh t k).num < 0)), .slice rx (nlen (fsh t k).num.natAbs) cx, .slice rx2 (nlen (fsh t k).den) cx2] 29)).alloc (.cells #[.bool (decide ((fsh t k).num < 0)), .slice rx (nlen (fsh t k).num.natAbs) cx, .slice rx2 (nlen (fsh t k).den) cx2] 29) |>.trans (own_kp ((HO.out.alloc _).alloc _) hNw hg1)); have HB1 := Lib.hid (own_bel ((HO.out.alloc _).alloc _) ((HBJb.out.alloc hsb _).alloc (by simp; omega) _) (by simp; omega) hg1); have HO1 := Lib.hid ho1; have HC1 := Lib.hid (Cl.push (HC.out.imp fun i v0 v1 v2 _ e => e.keep KP1.out) (show En N w1 (fsh t) k _ _ _ from ⟨_, _, _, _, rfl, rfl, rfl, HX1.out.keep KP1.out, HX2.out.keep KP1.out⟩)); clear ho1 hg1)
      go_roundw
      case rel => exact ⟨k + 1, by omega, by go_num, ⟨_, HO1.out, HC1.out⟩, Lib.hid (all_succ hin.out HVK.out), HB1.out⟩
      case measure => simp [intOf]; omega
    · obtain rfl : n = k := by omega
      have HPR := Lib.hid (fsh_prb hin.out)
      have HLN := Lib.hid (fsh_len hin.out)
      obtain ⟨xs, hown, hcl⟩ := HOL.out
      obtain ⟨ao, co, rfl, hrn⟩ := Cl.rn hown hcl
      have HRN := Lib.hid (hrn.rs (max L 14) (fun j hj => Nat.le_trans (HLN.out j hj) (by omega)))
      clear hown hcl HOL hrn
      have HCK := Lib.hid (show chkC (fsh t) n al = 0 by unfold chkC; rw [if_neg (by omega), if_pos ⟨HPR.out, HPA.out⟩])
      go_wp2_with fail
      refine calls_name fun W2 hW => ?_
      have HL_W2 := Lib.hid (show Below wr.heap.size wr W2 by rw [← hW]; exact BlA)
      have hs_W2 : wr.heap.size ≤ W2.heap.size := by rw [← hW]; (first | omega | (simp; done) | (simp; omega))
      replace k_A_0 : W2.cell? ⟨w.heap.size, 0, none⟩ = some (.bool s2) := (HL_W2.out.cell (p := ⟨w.heap.size, 0, none⟩) hl_A).trans k_A_0
      replace k_A_1 : W2.cell? ⟨w.heap.size, 1, none⟩ = some (.slice a2 na2 ca2) := (HL_W2.out.cell (p := ⟨w.heap.size, 1, none⟩) hl_A).trans k_A_1
      replace k_A_2 : W2.cell? ⟨w.heap.size, 2, none⟩ = some (.slice d2 nd2 cd2) := (HL_W2.out.cell (p := ⟨w.heap.size, 2, none⟩) hl_A).trans k_A_2
      replace f_A : ∀ o, W2.frozen? ⟨w.heap.size, o, none⟩ = false := fun o => (HL_W2.out.frozen (p := ⟨w.heap.size, o, none⟩) hl_A).trans (f_A o)
      replace HX_A := Lib.hid (show Bn W2 (w.heap.size) by rw [← hW]; exact KpA)
      replace HB := Lib.hid (show Below w.heap.size w W2 by rw [← hW]; exact BlA)
      replace hN : N ≤ W2.heap.size := by rw [← hW]; (first | omega | (simp; done) | (simp; omega))
      replace hs0 : w.heap.size ≤ W2.heap.size := by rw [← hW]; (first | omega | (simp; done) | (simp; omega))
      replace hl_A : w.heap.size < W2.heap.size := by rw [← hW]; (first | omega | (simp; done) | (simp; omega))
      replace HAA := Lib.hid (HAA.out.below HL_W2.out)
      replace HRN := Lib.hid (HRN.out.below HL_W2.out)
      clear HL_W2
      clear hW
      refine (xholm_ok (N := N) _ n _ (fsh t) _ _ _ _ _ _ _ (max L 14) al _ hN HRN.out (HAA.out.mono (by omega)) (by omega) HCK.out).mono ?_
      rintro e w9 ⟨pr, cr, rfl, hl, hb⟩
      have hs_w9 : W2.heap.size ≤ w9.heap.size := hb.size
      replace k_A_0 : w9.cell? ⟨w.heap.size, 0, none⟩ = some (.bool s2) := (hb.cell (p := ⟨w.heap.size, 0, none⟩) hl_A).trans k_A_0
      replace k_A_1 : w9.cell? ⟨w.heap.size, 1, none⟩ = some (.slice a2 na2 ca2) := (hb.cell (p := ⟨w.heap.size, 1, none⟩) hl_A).trans k_A_1
      replace k_A_2 : w9.cell? ⟨w.heap.size, 2, none⟩ = some (.slice d2 nd2 cd2) := (hb.cell (p := ⟨w.heap.size, 2, none⟩) hl_A).trans k_A_2
      replace f_A : ∀ o, w9.frozen? ⟨w.heap.size, o, none⟩ = false := fun o => (hb.frozen (p := ⟨w.heap.size, o, none⟩) hl_A).trans (f_A o)
      replace HX_A := Lib.hid (HX_A.out.below hb)
      replace HB := Lib.hid (HB.out.trans (hb.mono hs0))
      replace hN : N ≤ w9.heap.size := Nat.le_trans hN hb.size
      replace hs0 : w.heap.size ≤ w9.heap.size := Nat.le_trans hs0 hb.size
      replace hl_A : w.heap.size < w9.heap.size := Nat.lt_of_lt_of_le hl_A hb.size
      replace HAA := Lib.hid (HAA.out.below hb)
      replace HRN := Lib.hid (HRN.out.below hb)
      clear hb
      have HBS := Lib.hid hl
      have hq1 := hl.1
      have hq2 := hl.2.1
      unfold maxLen at hq2
      clear hl
      obtain ⟨i1, hi1, hzz⟩ := Option.map_eq_some_iff.1 Tryz.infoIntD
      simp only [Prod.mk.injEq] at hzz
      obtain ⟨hy0, hy1, hy2⟩ := hzz
      go_wp2_with fail
      go_loopw [12, 13] (fun out i wr => ∃ k : Nat, k ≤ n ∧ i = .int .i64 k ∧ Oz w9.heap.size wr out (flt (holQ (fsh t) n al) k) ∧ Below w9.heap.size w9 wr) (fun _ i _ => n - (intOf i).toNat)
      case atStart => exact ⟨0, Nat.zero_le _, rfl, Oz.made _, bel1 _ _⟩
      case round =>
        obtain ⟨k, hk, rfl, hoz, hbel⟩ := hrel
        have HOZ := Lib.hid hoz
        have HBZ := Lib.hid hbel
        have hszz := hbel.size
        clear hoz
        by_cases hkn : k < n
        · obtain ⟨bb, oo, rfl, hcc⟩ := (HBS.out.below hbel).2.2 (by omega)
          have c1 := hcc k hkn
          clear hbel hcc
          have hkz : (k : Int) < (n : Int) := by omega
          obtain ⟨v, hv⟩ : ∃ v, holQ (fsh t) n al k = v := ⟨_, rfl⟩
          rw [hv] at c1
          have HV := Lib.hid hv
          clear hv
          have hfl := flt_len (holQ (fsh t) n al) k
          cases v
          · go_wp2_with fail
            go_roundw
            case rel => exact ⟨k + 1, by omega, by go_num, by rw [flt_no HV.out]; exact HOZ.out, HBZ.out⟩
            case measure => simp [intOf]; omega
          · obtain ⟨l, hl⟩ : ∃ l, flt (holQ (fsh t) n al) k = l := ⟨_, rfl⟩
            rw [hl] at HOZ hfl
            have HFL := Lib.hid hl
            clear hl
            go_wp2_with (at_builtin; refine wpList_append_own_at _ rfl (.tmp 59) (.tmp 61) 45 rfl w9.heap.size 3 i1 (.int .i64 0) 1 8 Tryz.underIntsD hi1 hy0 hy1 hy2 rfl (by decide) _ l.length (l.map fun x => .int .i64 ((x : Nat) : Int)) rfl (World.ownsRow.alloc HOZ.out _) ⟨wr.heap.size, 0, none⟩ 1 1 [.int .i64 k] (by first | rfl | simp) rfl (cell_oneA wr _ rfl _ _) (by intro u hu; simp at hu; subst hu; rfl) (by unfold maxLen; omega) (by omega) (by simp; omega) ?_; intro v2 w2 hm2 hg2 _ hat2; have HO2 := Lib.hid (Oz.push hm2); have HB2 := Lib.hid ((HBZ.out.alloc hszz _).grown hg2 (by simp; omega) (fun k hk => (World.ownsRow.lt HOZ.out k hk).1)); clear hm2 hg2 hat2)
            go_roundw
            case rel => exact ⟨k + 1, by omega, by go_num, by rw [flt_yes HV.out, HFL.out]; exact HO2.out, HB2.out⟩
            case measure => simp [intOf]; omega
        · obtain rfl : n = k := by omega
          obtain ⟨p, cp, rfl, hlz⟩ := HOZ.out.open
          have HLZ := Lib.hid hlz
          have hcp := hlz.2.1
          have hcp2 := hlz.1
          unfold maxLen at hcp
          clear hlz hbel
          go_wp2_with fail
          go_ret2
          exact ⟨_, _, rfl, HLZ.out, HB.out.trans (HBZ.out.mono hs0)⟩
end Go.Proofs.YtnillajhhimeiaaGreatDoor
