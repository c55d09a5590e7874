/- Contract of law07's adds: where the means and the variances add up. -/
import Derived.Test.YtbjgnpgachdlaaaDoorJoG
namespace Go.Proofs.YtbjgnpgachdlaaaDoor
open Go.RowKit

theorem rsz_subx (p q : Rat) : rsz (p - q) ≤ rsz p + rsz q + 1 := by
  have e1 : mkRat (p.num * q.den - q.num * p.den) (p.den * q.den) = p - q := by
    rw [Rat.mkRat_eq_div, Rat.sub_eq_add_neg]
    have h1 := Rat.mkRat_self p
    have h2 := Rat.mkRat_self q
    rw [Rat.mkRat_eq_div] at h1 h2
    have c1 := natQ_ne p.den_pos
    have c2 := natQ_ne q.den_pos
    have e : (((p.num * q.den - q.num * p.den : Int)) : Rat) = (p.num : Rat) * ((q.den : Nat) : Rat) - (q.num : Rat) * ((p.den : Nat) : Rat) := by rw [Rat.intCast_sub, Rat.intCast_mul, Rat.intCast_mul]; rfl
    rw [e, natQ_mul]
    grind
  rw [← e1]
  have a1 := nlen_mul p.den q.den
  have b1 : nlen p.num.natAbs ≤ rsz p := by unfold rsz; omega
  have b2 : nlen p.den ≤ rsz p := by unfold rsz; omega
  have b3 : nlen q.num.natAbs ≤ rsz q := by unfold rsz; omega
  have b4 : nlen q.den ≤ rsz q := by unfold rsz; omega
  refine rsz_mk _ _ _ (by omega) ?_ (by omega)
  have c1 := nlen_mul p.num.natAbs q.den
  have c2 := nlen_mul q.num.natAbs p.den
  have c3 : (p.num * q.den - q.num * p.den).natAbs ≤ p.num.natAbs * q.den + q.num.natAbs * p.den := by
    have := Int.natAbs_sub_le (p.num * q.den) (q.num * p.den)
    rwa [Int.natAbs_mul, Int.natAbs_mul, Int.natAbs_natCast, Int.natAbs_natCast] at this
  refine Nat.le_trans (nlen_mono c3) ?_
  exact nlen_add1 _ _ _ (by omega) (by omega)
theorem mv_len {N : Nat} {w : World} {a : Option Addr} {n cap L : Nat} {q : Nat → Rat} (h : Rs N w a n cap q L) (hv : valid q n = true) : rsz (meanQ q n) ≤ L * 380 + 40 ∧ rsz (varQ q n) ≤ L * 380 + 40 := by
  obtain ⟨n0, n121, hge, _⟩ := valid_iff.1 hv
  have hld : nlen (lcN (deQ q) n) ≤ L * n + 1 := lcN_len (fun i hi => by have := h.lim i hi; unfold rsz at this; unfold deQ; omega)
  have hm4 : L * n ≤ L * 121 := Nat.mul_le_mul_left _ n121
  have h1 := mo1_len h hm4 hld n121
  have h2 := mo2_len h hm4 hld n121
  have e1 : rsz (meanQ q n) ≤ L * 125 + 9 := by rw [← mean_frq hge]; exact frq_len _ _ _ (by omega) (by omega) (by omega)
  have e2 : rsz (secQ q n) ≤ L * 125 + 9 := by rw [← sec_frq hge]; exact frq_len _ _ _ (by omega) (by omega) (by omega)
  have e3 := rsz_mul (meanQ q n) (meanQ q n)
  have e4 := rsz_subx (secQ q n) (meanQ q n * meanQ q n)
  unfold varQ
  omega
theorem rcmp_0 {N : Nat} (s s' : Bool) (a d a' d' : Option Addr) (na ca nd cd na' ca' nd' cd' L L' : Nat) (q : Rat) (w : World) (hN : N ≤ w.heap.size) (h : Rt N w s a na ca d nd cd q L) (h' : Rt N w s' a' na' ca' d' nd' cd' q L') (hL : L ≤ 68719476736) (hL' : L' ≤ 68719476736) :
    Calls Tryd.prog 16 #[.agg #[.bool s, .slice a na ca, .slice d nd cd], .agg #[.bool s', .slice a' na' ca', .slice d' nd' cd']] w fun e w' => e = .returned (.int .i64 0) ∧ Below w.heap.size w w' := by
  have := rcmp_any s s' a d a' d' na ca nd cd na' ca' nd' cd' L L' q q w hN h h' hL hL'
  rwa [cmpQ_self] at this

set_option maxHeartbeats 8000000 in
theorem adds_any {N : Nat} (a b c : Option Addr) (n ca m cb l cc : Nat) (x y z : Nat → Rat) (L : Nat) (w : World) (hN : N ≤ w.heap.size) (h1 : Rs N w a n ca x L) (h2 : Rs N w b m cb y L) (h3 : Rs N w c l cc z L) (hL : L ≤ 2097152)
    (hv1 : valid x n = true) (hv2 : valid y m = true) (hv3 : valid z l = true) (hmean : meanQ z l = meanQ x n + meanQ y m) (hvar : varQ z l = varQ x n + varQ y m) :
    Calls Tryd.prog 24 #[.slice a n ca, .slice b m cb, .slice c l cc] w fun e w' => e = .returned (.bool true) ∧ Below w.heap.size w w' := by
  have Hv1 := Lib.hid hv1
  have hz1 := mv_len h1 hv1
  obtain ⟨m1, hm1⟩ : ∃ p, meanQ x n = p := ⟨_, rfl⟩
  obtain ⟨s1, hs1⟩ : ∃ p, varQ x n = p := ⟨_, rfl⟩
  rw [hm1, hs1] at hz1
  have Hm1 := Lib.hid hm1
  have Hs1 := Lib.hid hs1
  have HZm1 := Lib.hid hz1.1
  have HZs1 := Lib.hid hz1.2
  have Hv2 := Lib.hid hv2
  have hz2 := mv_len h2 hv2
  obtain ⟨m2, hm2⟩ : ∃ p, meanQ y m = p := ⟨_, rfl⟩
  obtain ⟨s2, hs2⟩ : ∃ p, varQ y m = p := ⟨_, rfl⟩
  rw [hm2, hs2] at hz2
  have Hm2 := Lib.hid hm2
  have Hs2 := Lib.hid hs2
  have HZm2 := Lib.hid hz2.1
  have HZs2 := Lib.hid hz2.2
  have Hv3 := Lib.hid hv3
  have hz3 := mv_len h3 hv3
  obtain ⟨m3, hm3⟩ : ∃ p, meanQ z l = p := ⟨_, rfl⟩
  obtain ⟨s3, hs3⟩ : ∃ p, varQ z l = p := ⟨_, rfl⟩
  rw [hm3, hs3] at hz3
  have Hm3 := Lib.hid hm3
  have Hs3 := Lib.hid hs3
  have HZm3 := Lib.hid hz3.1
  have HZs3 := Lib.hid hz3.2
  have HSm3 := Lib.hid (show m1 + m2 = m3 by rw [← hm1, ← hm2, ← hm3]; exact hmean.symm)
  have HSs3 := Lib.hid (show s1 + s2 = s3 by rw [← hs1, ← hs2, ← hs3]; exact hvar.symm)
  clear hv1 hv2 hv3 hz1 hz2 hz3 hm1 hm2 hm3 hs1 hs2 hs3 hmean hvar
  have hN0 := hN
  have HA := Lib.hid h1
  have HC := Lib.hid h2
  have HE := Lib.hid h3
  clear h1 h2 h3
  have HB := Lib.hid (Below.refl w.heap.size w)
  go_enter Tryd.func24, Tryd.ntmps24
  go_wp2_with fail
  refine calls_name fun W0 hW => ?_
  have hN_W0 : N ≤ W0.heap.size := by rw [← hW]; (first | omega | (simp; done) | (simp; omega))
  have hs_W0 : w.heap.size ≤ W0.heap.size := by rw [← hW]; (first | omega | (simp; done) | (simp; omega))
  have hs0_W0 : w.heap.size ≤ W0.heap.size := by rw [← hW]; (first | omega | (simp; done) | (simp; omega))
  have HB_W0 := Lib.hid (show Below w.heap.size w W0 by rw [← hW]; (repeat' (first | with_reducible exact Below.refl _ _ | with_reducible exact HB.out | (with_reducible refine Below.alloc ?_ ?_ _; rotate_left; (focus (first | omega | (simp; done) | (simp; omega)))) | with_reducible apply Below.drew | (with_reducible refine Below.setCell ?_ ?_ _; rotate_left; (focus (first | omega | (simp; done) | (simp; omega)))))))
  clear hW
  clear HB hN
  have hN := hN_W0
  have HB := HB_W0
  have hs0 := hs0_W0
  clear hN_W0 HB_W0 hs0_W0
  refine (Mean_ok (N := N) _ _ _ x L _ hN (HA.out.below HB.out) hL Hv1.out m1 Hm1.out).mono ?_
  rintro e wa0 ⟨rxa, cxa, rxa2, cxa2, rfl, hn, hn', hb⟩
  have hN_wa0 : N ≤ wa0.heap.size := Nat.le_trans hN hb.size
  have hs_wa0 : W0.heap.size ≤ wa0.heap.size := hb.size
  have hs0_wa0 : w.heap.size ≤ wa0.heap.size := Nat.le_trans hs0 hb.size
  have HB_wa0 := Lib.hid (HB.out.trans (hb.mono hs0))
  clear hb
  clear HB hN hs0
  have hN := hN_wa0
  have HB := HB_wa0
  have hs0 := hs0_wa0
  clear hN_wa0 HB_wa0 hs0_wa0
  have Hxa1 := Lib.hid hn
  clear hn
  have Hxa2 := Lib.hid hn'
  clear hn'
  go_wp2_with fail
  refine calls_name fun Wa0 hW => ?_
  have hN_Wa0 : N ≤ Wa0.heap.size := by rw [← hW]; (first | omega | (simp; done) | (simp; omega))
  have hs_Wa0 : wa0.heap.size ≤ Wa0.heap.size := by rw [← hW]; (first | omega | (simp; done) | (simp; omega))
  have hs0_Wa0 : w.heap.size ≤ Wa0.heap.size := by rw [← hW]; (first | omega | (simp; done) | (simp; omega))
  have hl_X_Wa0 : wa0.heap.size < Wa0.heap.size := by rw [← hW]; (first | omega | (simp; done) | (simp; omega))
  have k_X_0_Wa0 : Wa0.cell? ⟨wa0.heap.size, 0, none⟩ = some (.bool (decide ((m1).num < 0))) := by rw [← hW]; (first | (go_simp; done) | (simp; done) | (simp [go_sem]; done) | (simp [go_sem]; done))
  have k_X_1_Wa0 : Wa0.cell? ⟨wa0.heap.size, 1, none⟩ = some (.slice rxa (nlen (m1).num.natAbs) cxa) := by rw [← hW]; (first | (go_simp; done) | (simp; done) | (simp [go_sem]; done) | (simp [go_sem]; done))
  have k_X_2_Wa0 : Wa0.cell? ⟨wa0.heap.size, 2, none⟩ = some (.slice rxa2 (nlen (m1).den) cxa2) := by rw [← hW]; (first | (go_simp; done) | (simp; done) | (simp [go_sem]; done) | (simp [go_sem]; done))
  have f_X_Wa0 : ∀ o, Wa0.frozen? ⟨wa0.heap.size, o, none⟩ = false := by intro o; rw [← hW]; (first | (go_simp; done) | (simp; done) | (simp [go_sem]; done) | (simp [go_sem]; done))
  have HX_X_Wa0 := Lib.hid (show Bn Wa0 (wa0.heap.size) by rw [← hW]; (repeat' (first | with_reducible exact Kp.refl _ _ | with_reducible apply Kp.alloc | with_reducible apply Kp.drew | (with_reducible refine Kp.put ?_ ?_ ?_ _; rotate_left; (focus (first | omega | (simp; done) | (simp; omega))); rotate_left) | (with_reducible refine Bn.new _ _ _ _ ?_ ?_; (focus (first | omega | (simp; done) | (simp; omega))); decide) | with_reducible apply Bn.alloc | with_reducible apply Bn.drew | with_reducible apply Bn.set)))
  have HK_Wa0 := Lib.hid (show Kp N wa0 Wa0 by rw [← hW]; (repeat' (first | with_reducible exact Kp.refl _ _ | with_reducible apply Kp.alloc | with_reducible apply Kp.drew | (with_reducible refine Kp.put ?_ ?_ ?_ _; rotate_left; (focus (first | omega | (simp; done) | (simp; omega))); rotate_left) | (with_reducible refine Bn.new _ _ _ _ ?_ ?_; (focus (first | omega | (simp; done) | (simp; omega))); decide) | with_reducible apply Bn.alloc | with_reducible apply Bn.drew | with_reducible apply Bn.set)))
  have Hxa1_Wa0 := Lib.hid (Hxa1.out.keep HK_Wa0.out)
  have Hxa2_Wa0 := Lib.hid (Hxa2.out.keep HK_Wa0.out)
  have HB_Wa0 := Lib.hid (show Below w.heap.size w Wa0 by rw [← hW]; (repeat' (first | with_reducible exact Below.refl _ _ | with_reducible exact HB.out | (with_reducible refine Below.alloc ?_ ?_ _; rotate_left; (focus (first | omega | (simp; done) | (simp; omega)))) | with_reducible apply Below.drew | (with_reducible refine Below.setCell ?_ ?_ _; rotate_left; (focus (first | omega | (simp; done) | (simp; omega)))))))
  clear hW HK_Wa0
  clear Hxa1 Hxa2 HB hN hs0
  have hN := hN_Wa0
  have HB := HB_Wa0
  have hs0 := hs0_Wa0
  have hl_X := hl_X_Wa0
  have f_X := f_X_Wa0
  have HX_X := HX_X_Wa0
  have k_X_0 := k_X_0_Wa0
  have k_X_1 := k_X_1_Wa0
  have k_X_2 := k_X_2_Wa0
  have Hxa1 := Hxa1_Wa0
  have Hxa2 := Hxa2_Wa0
  clear hN_Wa0 HB_Wa0 hs0_Wa0 hl_X_Wa0 f_X_Wa0 HX_X_Wa0 k_X_0_Wa0 k_X_1_Wa0 k_X_2_Wa0 Hxa1_Wa0 Hxa2_Wa0
  refine (Mean_ok (N := N) _ _ _ y L _ hN (HC.out.below HB.out) hL Hv2.out m2 Hm2.out).mono ?_
  rintro e wa1 ⟨rya, cya, rya2, cya2, rfl, hn, hn', hb⟩
  have hN_wa1 : N ≤ wa1.heap.size := Nat.le_trans hN hb.size
  have hs_wa1 : Wa0.heap.size ≤ wa1.heap.size := hb.size
  have hs0_wa1 : w.heap.size ≤ wa1.heap.size := Nat.le_trans hs0 hb.size
  have hl_X_wa1 : wa0.heap.size < wa1.heap.size := Nat.lt_of_lt_of_le hl_X hb.size
  have k_X_0_wa1 : wa1.cell? ⟨wa0.heap.size, 0, none⟩ = some (.bool (decide ((m1).num < 0))) := (hb.cell (p := ⟨wa0.heap.size, 0, none⟩) hl_X).trans k_X_0
  have k_X_1_wa1 : wa1.cell? ⟨wa0.heap.size, 1, none⟩ = some (.slice rxa (nlen (m1).num.natAbs) cxa) := (hb.cell (p := ⟨wa0.heap.size, 1, none⟩) hl_X).trans k_X_1
  have k_X_2_wa1 : wa1.cell? ⟨wa0.heap.size, 2, none⟩ = some (.slice rxa2 (nlen (m1).den) cxa2) := (hb.cell (p := ⟨wa0.heap.size, 2, none⟩) hl_X).trans k_X_2
  have f_X_wa1 : ∀ o, wa1.frozen? ⟨wa0.heap.size, o, none⟩ = false := fun o => (hb.frozen (p := ⟨wa0.heap.size, o, none⟩) hl_X).trans (f_X o)
  have HX_X_wa1 := Lib.hid (HX_X.out.below hb)
  have Hxa1_wa1 := Lib.hid (Hxa1.out.below hb)
  have Hxa2_wa1 := Lib.hid (Hxa2.out.below hb)
  have HB_wa1 := Lib.hid (HB.out.trans (hb.mono hs0))
  clear hb
  clear hl_X f_X HX_X k_X_0 k_X_1 k_X_2 Hxa1 Hxa2 HB hN hs0
  have hN := hN_wa1
  have HB := HB_wa1
  have hs0 := hs0_wa1
  have hl_X := hl_X_wa1
  have f_X := f_X_wa1
  have HX_X := HX_X_wa1
  have k_X_0 := k_X_0_wa1
  have k_X_1 := k_X_1_wa1
  have k_X_2 := k_X_2_wa1
  have Hxa1 := Hxa1_wa1
  have Hxa2 := Hxa2_wa1
  clear hN_wa1 HB_wa1 hs0_wa1 hl_X_wa1 f_X_wa1 HX_X_wa1 k_X_0_wa1 k_X_1_wa1 k_X_2_wa1 Hxa1_wa1 Hxa2_wa1
  have Hya1 := Lib.hid hn
  clear hn
  have Hya2 := Lib.hid hn'
  clear hn'
  go_wp2_with fail
  refine calls_name fun Wa1 hW => ?_
  have HL_Wa1 := Lib.hid (show Below wa1.heap.size wa1 Wa1 by rw [← hW]; (repeat' (first | with_reducible exact Below.refl _ _ | (with_reducible refine Below.alloc ?_ ?_ _; rotate_left; (focus (first | omega | (simp; done) | (simp; omega)))) | with_reducible apply Below.drew | (with_reducible refine Below.setCell ?_ ?_ _; rotate_left; (focus (first | omega | (simp; done) | (simp; omega)))))))
  have hN_Wa1 : N ≤ Wa1.heap.size := by rw [← hW]; (first | omega | (simp; done) | (simp; omega))
  have hs_Wa1 : wa1.heap.size ≤ Wa1.heap.size := by rw [← hW]; (first | omega | (simp; done) | (simp; omega))
  have hs0_Wa1 : w.heap.size ≤ Wa1.heap.size := by rw [← hW]; (first | omega | (simp; done) | (simp; omega))
  have hd_X_Y : wa0.heap.size < wa1.heap.size := by omega
  have hl_X_Wa1 : wa0.heap.size < Wa1.heap.size := by rw [← hW]; (first | omega | (simp; done) | (simp; omega))
  have k_X_0_Wa1 : Wa1.cell? ⟨wa0.heap.size, 0, none⟩ = some (.bool (decide ((m1).num < 0))) := (HL_Wa1.out.cell (p := ⟨wa0.heap.size, 0, none⟩) hl_X).trans k_X_0
  have k_X_1_Wa1 : Wa1.cell? ⟨wa0.heap.size, 1, none⟩ = some (.slice rxa (nlen (m1).num.natAbs) cxa) := (HL_Wa1.out.cell (p := ⟨wa0.heap.size, 1, none⟩) hl_X).trans k_X_1
  have k_X_2_Wa1 : Wa1.cell? ⟨wa0.heap.size, 2, none⟩ = some (.slice rxa2 (nlen (m1).den) cxa2) := (HL_Wa1.out.cell (p := ⟨wa0.heap.size, 2, none⟩) hl_X).trans k_X_2
  have f_X_Wa1 : ∀ o, Wa1.frozen? ⟨wa0.heap.size, o, none⟩ = false := fun o => (HL_Wa1.out.frozen (p := ⟨wa0.heap.size, o, none⟩) hl_X).trans (f_X o)
  have HX_X_Wa1 := Lib.hid (show Bn Wa1 (wa0.heap.size) by rw [← hW]; (repeat' (first | with_reducible exact Kp.refl _ _ | with_reducible exact HX_X.out | with_reducible apply Kp.alloc | with_reducible apply Kp.drew | (with_reducible refine Kp.put ?_ ?_ ?_ _; rotate_left; (focus (first | omega | (simp; done) | (simp; omega))); rotate_left) | (with_reducible refine Bn.new _ _ _ _ ?_ ?_; (focus (first | omega | (simp; done) | (simp; omega))); decide) | with_reducible apply Bn.alloc | with_reducible apply Bn.drew | with_reducible apply Bn.set)))
  have hl_Y_Wa1 : wa1.heap.size < Wa1.heap.size := by rw [← hW]; (first | omega | (simp; done) | (simp; omega))
  have k_Y_0_Wa1 : Wa1.cell? ⟨wa1.heap.size, 0, none⟩ = some (.bool (decide ((m2).num < 0))) := by rw [← hW]; (first | (go_simp; done) | (simp; done) | (simp [go_sem]; done) | (simp [go_sem, k_X_0, k_X_1, k_X_2, f_X, hl_X]; done))
  have k_Y_1_Wa1 : Wa1.cell? ⟨wa1.heap.size, 1, none⟩ = some (.slice rya (nlen (m2).num.natAbs) cya) := by rw [← hW]; (first | (go_simp; done) | (simp; done) | (simp [go_sem]; done) | (simp [go_sem, k_X_0, k_X_1, k_X_2, f_X, hl_X]; done))
  have k_Y_2_Wa1 : Wa1.cell? ⟨wa1.heap.size, 2, none⟩ = some (.slice rya2 (nlen (m2).den) cya2) := by rw [← hW]; (first | (go_simp; done) | (simp; done) | (simp [go_sem]; done) | (simp [go_sem, k_X_0, k_X_1, k_X_2, f_X, hl_X]; done))
  have f_Y_Wa1 : ∀ o, Wa1.frozen? ⟨wa1.heap.size, o, none⟩ = false := by intro o; rw [← hW]; (first | (go_simp; done) | (simp; done) | (simp [go_sem]; done) | (simp [go_sem, k_X_0, k_X_1, k_X_2, f_X, hl_X]; done))
  have HX_Y_Wa1 := Lib.hid (show Bn Wa1 (wa1.heap.size) by rw [← hW]; (repeat' (first | with_reducible exact Kp.refl _ _ | with_reducible exact HX_X.out | with_reducible apply Kp.alloc | with_reducible apply Kp.drew | (with_reducible refine Kp.put ?_ ?_ ?_ _; rotate_left; (focus (first | omega | (simp; done) | (simp; omega))); rotate_left) | (with_reducible refine Bn.new _ _ _ _ ?_ ?_; (focus (first | omega | (simp; done) | (simp; omega))); decide) | with_reducible apply Bn.alloc | with_reducible apply Bn.drew | with_reducible apply Bn.set)))
  have HK_Wa1 := Lib.hid (show Kp N wa1 Wa1 by rw [← hW]; (repeat' (first | with_reducible exact Kp.refl _ _ | with_reducible exact HX_X.out | with_reducible apply Kp.alloc | with_reducible apply Kp.drew | (with_reducible refine Kp.put ?_ ?_ ?_ _; rotate_left; (focus (first | omega | (simp; done) | (simp; omega))); rotate_left) | (with_reducible refine Bn.new _ _ _ _ ?_ ?_; (focus (first | omega | (simp; done) | (simp; omega))); decide) | with_reducible apply Bn.alloc | with_reducible apply Bn.drew | with_reducible apply Bn.set)))
  have Hxa1_Wa1 := Lib.hid (Hxa1.out.keep HK_Wa1.out)
  have Hxa2_Wa1 := Lib.hid (Hxa2.out.keep HK_Wa1.out)
  have Hya1_Wa1 := Lib.hid (Hya1.out.keep HK_Wa1.out)
  have Hya2_Wa1 := Lib.hid (Hya2.out.keep HK_Wa1.out)
  have HB_Wa1 := Lib.hid (show Below w.heap.size w Wa1 by rw [← hW]; (repeat' (first | with_reducible exact Below.refl _ _ | with_reducible exact HB.out | (with_reducible refine Below.alloc ?_ ?_ _; rotate_left; (focus (first | omega | (simp; done) | (simp; omega)))) | with_reducible apply Below.drew | (with_reducible refine Below.setCell ?_ ?_ _; rotate_left; (focus (first | omega | (simp; done) | (simp; omega)))))))
  clear HL_Wa1
  clear hW HK_Wa1
  clear hl_X f_X HX_X k_X_0 k_X_1 k_X_2 Hxa1 Hxa2 Hya1 Hya2 HB hN hs0
  have hN := hN_Wa1
  have HB := HB_Wa1
  have hs0 := hs0_Wa1
  have hl_X := hl_X_Wa1
  have f_X := f_X_Wa1
  have HX_X := HX_X_Wa1
  have k_X_0 := k_X_0_Wa1
  have k_X_1 := k_X_1_Wa1
  have k_X_2 := k_X_2_Wa1
  have hl_Y := hl_Y_Wa1
  have f_Y := f_Y_Wa1
  have HX_Y := HX_Y_Wa1
  have k_Y_0 := k_Y_0_Wa1
  have k_Y_1 := k_Y_1_Wa1
  have k_Y_2 := k_Y_2_Wa1
  have Hxa1 := Hxa1_Wa1
  have Hxa2 := Hxa2_Wa1
  have Hya1 := Hya1_Wa1
  have Hya2 := Hya2_Wa1
  clear hN_Wa1 HB_Wa1 hs0_Wa1 hl_X_Wa1 f_X_Wa1 HX_X_Wa1 k_X_0_Wa1 k_X_1_Wa1 k_X_2_Wa1 hl_Y_Wa1 f_Y_Wa1 HX_Y_Wa1 k_Y_0_Wa1 k_Y_1_Wa1 k_Y_2_Wa1 Hxa1_Wa1 Hxa2_Wa1 Hya1_Wa1 Hya2_Wa1
  refine (Mean_ok (N := N) _ _ _ z L _ hN (HE.out.below HB.out) hL Hv3.out m3 Hm3.out).mono ?_
  rintro e wa2 ⟨rza, cza, rza2, cza2, rfl, hn, hn', hb⟩
  have hN_wa2 : N ≤ wa2.heap.size := Nat.le_trans hN hb.size
  have hs_wa2 : Wa1.heap.size ≤ wa2.heap.size := hb.size
  have hs0_wa2 : w.heap.size ≤ wa2.heap.size := Nat.le_trans hs0 hb.size
  have hl_X_wa2 : wa0.heap.size < wa2.heap.size := Nat.lt_of_lt_of_le hl_X hb.size
  have k_X_0_wa2 : wa2.cell? ⟨wa0.heap.size, 0, none⟩ = some (.bool (decide ((m1).num < 0))) := (hb.cell (p := ⟨wa0.heap.size, 0, none⟩) hl_X).trans k_X_0
  have k_X_1_wa2 : wa2.cell? ⟨wa0.heap.size, 1, none⟩ = some (.slice rxa (nlen (m1).num.natAbs) cxa) := (hb.cell (p := ⟨wa0.heap.size, 1, none⟩) hl_X).trans k_X_1
  have k_X_2_wa2 : wa2.cell? ⟨wa0.heap.size, 2, none⟩ = some (.slice rxa2 (nlen (m1).den) cxa2) := (hb.cell (p := ⟨wa0.heap.size, 2, none⟩) hl_X).trans k_X_2
  have f_X_wa2 : ∀ o, wa2.frozen? ⟨wa0.heap.size, o, none⟩ = false := fun o => (hb.frozen (p := ⟨wa0.heap.size, o, none⟩) hl_X).trans (f_X o)
  have HX_X_wa2 := Lib.hid (HX_X.out.below hb)
  have hl_Y_wa2 : wa1.heap.size < wa2.heap.size := Nat.lt_of_lt_of_le hl_Y hb.size
  have k_Y_0_wa2 : wa2.cell? ⟨wa1.heap.size, 0, none⟩ = some (.bool (decide ((m2).num < 0))) := (hb.cell (p := ⟨wa1.heap.size, 0, none⟩) hl_Y).trans k_Y_0
  have k_Y_1_wa2 : wa2.cell? ⟨wa1.heap.size, 1, none⟩ = some (.slice rya (nlen (m2).num.natAbs) cya) := (hb.cell (p := ⟨wa1.heap.size, 1, none⟩) hl_Y).trans k_Y_1
  have k_Y_2_wa2 : wa2.cell? ⟨wa1.heap.size, 2, none⟩ = some (.slice rya2 (nlen (m2).den) cya2) := (hb.cell (p := ⟨wa1.heap.size, 2, none⟩) hl_Y).trans k_Y_2
  have f_Y_wa2 : ∀ o, wa2.frozen? ⟨wa1.heap.size, o, none⟩ = false := fun o => (hb.frozen (p := ⟨wa1.heap.size, o, none⟩) hl_Y).trans (f_Y o)
  have HX_Y_wa2 := Lib.hid (HX_Y.out.below hb)
  have Hxa1_wa2 := Lib.hid (Hxa1.out.below hb)
  have Hxa2_wa2 := Lib.hid (Hxa2.out.below hb)
  have Hya1_wa2 := Lib.hid (Hya1.out.below hb)
  have Hya2_wa2 := Lib.hid (Hya2.out.below hb)
  have HB_wa2 := Lib.hid (HB.out.trans (hb.mono hs0))
  clear hb
  clear hl_X f_X HX_X k_X_0 k_X_1 k_X_2 hl_Y f_Y HX_Y k_Y_0 k_Y_1 k_Y_2 Hxa1 Hxa2 Hya1 Hya2 HB hN hs0
  have hN := hN_wa2
  have HB := HB_wa2
  have hs0 := hs0_wa2
  have hl_X := hl_X_wa2
  have f_X := f_X_wa2
  have HX_X := HX_X_wa2
  have k_X_0 := k_X_0_wa2
  have k_X_1 := k_X_1_wa2
  have k_X_2 := k_X_2_wa2
  have hl_Y := hl_Y_wa2
  have f_Y := f_Y_wa2
  have HX_Y := HX_Y_wa2
  have k_Y_0 := k_Y_0_wa2
  have k_Y_1 := k_Y_1_wa2
  have k_Y_2 := k_Y_2_wa2
  have Hxa1 := Hxa1_wa2
  have Hxa2 := Hxa2_wa2
  have Hya1 := Hya1_wa2
  have Hya2 := Hya2_wa2
  clear hN_wa2 HB_wa2 hs0_wa2 hl_X_wa2 f_X_wa2 HX_X_wa2 k_X_0_wa2 k_X_1_wa2 k_X_2_wa2 hl_Y_wa2 f_Y_wa2 HX_Y_wa2 k_Y_0_wa2 k_Y_1_wa2 k_Y_2_wa2 Hxa1_wa2 Hxa2_wa2 Hya1_wa2 Hya2_wa2
  have Hza1 := Lib.hid hn
  clear hn
  have Hza2 := Lib.hid hn'
  clear hn'
  go_wp2_with fail
  refine region_name fun Wa2 hW => ?_
  have HL_Wa2 := Lib.hid (show Below wa2.heap.size wa2 Wa2 by rw [← hW]; (repeat' (first | with_reducible exact Below.refl _ _ | (with_reducible refine Below.alloc ?_ ?_ _; rotate_left; (focus (first | omega | (simp; done) | (simp; omega)))) | with_reducible apply Below.drew | (with_reducible refine Below.setCell ?_ ?_ _; rotate_left; (focus (first | omega | (simp; done) | (simp; omega)))))))
  have hN_Wa2 : N ≤ Wa2.heap.size := by rw [← hW]; (first | omega | (simp; done) | (simp; omega))
  have hs_Wa2 : wa2.heap.size ≤ Wa2.heap.size := by rw [← hW]; (first | omega | (simp; done) | (simp; omega))
  have hs0_Wa2 : w.heap.size ≤ Wa2.heap.size := by rw [← hW]; (first | omega | (simp; done) | (simp; omega))
  have hd_X_Z : wa0.heap.size < wa2.heap.size := by omega
  have hd_Y_Z : wa1.heap.size < wa2.heap.size := by omega
  have hl_X_Wa2 : wa0.heap.size < Wa2.heap.size := by rw [← hW]; (first | omega | (simp; done) | (simp; omega))
  have k_X_0_Wa2 : Wa2.cell? ⟨wa0.heap.size, 0, none⟩ = some (.bool (decide ((m1).num < 0))) := (HL_Wa2.out.cell (p := ⟨wa0.heap.size, 0, none⟩) hl_X).trans k_X_0
  have k_X_1_Wa2 : Wa2.cell? ⟨wa0.heap.size, 1, none⟩ = some (.slice rxa (nlen (m1).num.natAbs) cxa) := (HL_Wa2.out.cell (p := ⟨wa0.heap.size, 1, none⟩) hl_X).trans k_X_1
  have k_X_2_Wa2 : Wa2.cell? ⟨wa0.heap.size, 2, none⟩ = some (.slice rxa2 (nlen (m1).den) cxa2) := (HL_Wa2.out.cell (p := ⟨wa0.heap.size, 2, none⟩) hl_X).trans k_X_2
  have f_X_Wa2 : ∀ o, Wa2.frozen? ⟨wa0.heap.size, o, none⟩ = false := fun o => (HL_Wa2.out.frozen (p := ⟨wa0.heap.size, o, none⟩) hl_X).trans (f_X o)
  have HX_X_Wa2 := Lib.hid (show Bn Wa2 (wa0.heap.size) by rw [← hW]; (repeat' (first | with_reducible exact Kp.refl _ _ | with_reducible exact HX_X.out | with_reducible exact HX_Y.out | with_reducible apply Kp.alloc | with_reducible apply Kp.drew | (with_reducible refine Kp.put ?_ ?_ ?_ _; rotate_left; (focus (first | omega | (simp; done) | (simp; omega))); rotate_left) | (with_reducible refine Bn.new _ _ _ _ ?_ ?_; (focus (first | omega | (simp; done) | (simp; omega))); decide) | with_reducible apply Bn.alloc | with_reducible apply Bn.drew | with_reducible apply Bn.set)))
  have hl_Y_Wa2 : wa1.heap.size < Wa2.heap.size := by rw [← hW]; (first | omega | (simp; done) | (simp; omega))
  have k_Y_0_Wa2 : Wa2.cell? ⟨wa1.heap.size, 0, none⟩ = some (.bool (decide ((m2).num < 0))) := (HL_Wa2.out.cell (p := ⟨wa1.heap.size, 0, none⟩) hl_Y).trans k_Y_0
  have k_Y_1_Wa2 : Wa2.cell? ⟨wa1.heap.size, 1, none⟩ = some (.slice rya (nlen (m2).num.natAbs) cya) := (HL_Wa2.out.cell (p := ⟨wa1.heap.size, 1, none⟩) hl_Y).trans k_Y_1
  have k_Y_2_Wa2 : Wa2.cell? ⟨wa1.heap.size, 2, none⟩ = some (.slice rya2 (nlen (m2).den) cya2) := (HL_Wa2.out.cell (p := ⟨wa1.heap.size, 2, none⟩) hl_Y).trans k_Y_2
  have f_Y_Wa2 : ∀ o, Wa2.frozen? ⟨wa1.heap.size, o, none⟩ = false := fun o => (HL_Wa2.out.frozen (p := ⟨wa1.heap.size, o, none⟩) hl_Y).trans (f_Y o)
  have HX_Y_Wa2 := Lib.hid (show Bn Wa2 (wa1.heap.size) by rw [← hW]; (repeat' (first | with_reducible exact Kp.refl _ _ | with_reducible exact HX_X.out | with_reducible exact HX_Y.out | with_reducible apply Kp.alloc | with_reducible apply Kp.drew | (with_reducible refine Kp.put ?_ ?_ ?_ _; rotate_left; (focus (first | omega | (simp; done) | (simp; omega))); rotate_left) | (with_reducible refine Bn.new _ _ _ _ ?_ ?_; (focus (first | omega | (simp; done) | (simp; omega))); decide) | with_reducible apply Bn.alloc | with_reducible apply Bn.drew | with_reducible apply Bn.set)))
  have hl_Z_Wa2 : wa2.heap.size < Wa2.heap.size := by rw [← hW]; (first | omega | (simp; done) | (simp; omega))
  have k_Z_0_Wa2 : Wa2.cell? ⟨wa2.heap.size, 0, none⟩ = some (.bool (decide ((m3).num < 0))) := by rw [← hW]; (first | (go_simp; done) | (simp; done) | (simp [go_sem]; done) | (simp [go_sem, k_X_0, k_X_1, k_X_2, k_Y_0, k_Y_1, k_Y_2, f_X, f_Y, hl_X, hl_Y]; done))
  have k_Z_1_Wa2 : Wa2.cell? ⟨wa2.heap.size, 1, none⟩ = some (.slice rza (nlen (m3).num.natAbs) cza) := by rw [← hW]; (first | (go_simp; done) | (simp; done) | (simp [go_sem]; done) | (simp [go_sem, k_X_0, k_X_1, k_X_2, k_Y_0, k_Y_1, k_Y_2, f_X, f_Y, hl_X, hl_Y]; done))
  have k_Z_2_Wa2 : Wa2.cell? ⟨wa2.heap.size, 2, none⟩ = some (.slice rza2 (nlen (m3).den) cza2) := by rw [← hW]; (first | (go_simp; done) | (simp; done) | (simp [go_sem]; done) | (simp [go_sem, k_X_0, k_X_1, k_X_2, k_Y_0, k_Y_1, k_Y_2, f_X, f_Y, hl_X, hl_Y]; done))
  have f_Z_Wa2 : ∀ o, Wa2.frozen? ⟨wa2.heap.size, o, none⟩ = false := by intro o; rw [← hW]; (first | (go_simp; done) | (simp; done) | (simp [go_sem]; done) | (simp [go_sem, k_X_0, k_X_1, k_X_2, k_Y_0, k_Y_1, k_Y_2, f_X, f_Y, hl_X, hl_Y]; done))
  have HX_Z_Wa2 := Lib.hid (show Bn Wa2 (wa2.heap.size) by rw [← hW]; (repeat' (first | with_reducible exact Kp.refl _ _ | with_reducible exact HX_X.out | with_reducible exact HX_Y.out | with_reducible apply Kp.alloc | with_reducible apply Kp.drew | (with_reducible refine Kp.put ?_ ?_ ?_ _; rotate_left; (focus (first | omega | (simp; done) | (simp; omega))); rotate_left) | (with_reducible refine Bn.new _ _ _ _ ?_ ?_; (focus (first | omega | (simp; done) | (simp; omega))); decide) | with_reducible apply Bn.alloc | with_reducible apply Bn.drew | with_reducible apply Bn.set)))
  have HK_Wa2 := Lib.hid (show Kp N wa2 Wa2 by rw [← hW]; (repeat' (first | with_reducible exact Kp.refl _ _ | with_reducible exact HX_X.out | with_reducible exact HX_Y.out | with_reducible apply Kp.alloc | with_reducible apply Kp.drew | (with_reducible refine Kp.put ?_ ?_ ?_ _; rotate_left; (focus (first | omega | (simp; done) | (simp; omega))); rotate_left) | (with_reducible refine Bn.new _ _ _ _ ?_ ?_; (focus (first | omega | (simp; done) | (simp; omega))); decide) | with_reducible apply Bn.alloc | with_reducible apply Bn.drew | with_reducible apply Bn.set)))
  have Hxa1_Wa2 := Lib.hid (Hxa1.out.keep HK_Wa2.out)
  have Hxa2_Wa2 := Lib.hid (Hxa2.out.keep HK_Wa2.out)
  have Hya1_Wa2 := Lib.hid (Hya1.out.keep HK_Wa2.out)
  have Hya2_Wa2 := Lib.hid (Hya2.out.keep HK_Wa2.out)
  have Hza1_Wa2 := Lib.hid (Hza1.out.keep HK_Wa2.out)
  have Hza2_Wa2 := Lib.hid (Hza2.out.keep HK_Wa2.out)
  have HB_Wa2 := Lib.hid (show Below w.heap.size w Wa2 by rw [← hW]; (repeat' (first | with_reducible exact Below.refl _ _ | with_reducible exact HB.out | (with_reducible refine Below.alloc ?_ ?_ _; rotate_left; (focus (first | omega | (simp; done) | (simp; omega)))) | with_reducible apply Below.drew | (with_reducible refine Below.setCell ?_ ?_ _; rotate_left; (focus (first | omega | (simp; done) | (simp; omega)))))))
  clear HL_Wa2
  clear hW HK_Wa2
  clear hl_X f_X HX_X k_X_0 k_X_1 k_X_2 hl_Y f_Y HX_Y k_Y_0 k_Y_1 k_Y_2 Hxa1 Hxa2 Hya1 Hya2 Hza1 Hza2 HB hN hs0
  have hN := hN_Wa2
  have HB := HB_Wa2
  have hs0 := hs0_Wa2
  have hl_X := hl_X_Wa2
  have f_X := f_X_Wa2
  have HX_X := HX_X_Wa2
  have k_X_0 := k_X_0_Wa2
  have k_X_1 := k_X_1_Wa2
  have k_X_2 := k_X_2_Wa2
  have hl_Y := hl_Y_Wa2
  have f_Y := f_Y_Wa2
  have HX_Y := HX_Y_Wa2
  have k_Y_0 := k_Y_0_Wa2
  have k_Y_1 := k_Y_1_Wa2
  have k_Y_2 := k_Y_2_Wa2
  have hl_Z := hl_Z_Wa2
  have f_Z := f_Z_Wa2
  have HX_Z := HX_Z_Wa2
  have k_Z_0 := k_Z_0_Wa2
  have k_Z_1 := k_Z_1_Wa2
  have k_Z_2 := k_Z_2_Wa2
  have Hxa1 := Hxa1_Wa2
  have Hxa2 := Hxa2_Wa2
  have Hya1 := Hya1_Wa2
  have Hya2 := Hya2_Wa2
  have Hza1 := Hza1_Wa2
  have Hza2 := Hza2_Wa2
  clear hN_Wa2 HB_Wa2 hs0_Wa2 hl_X_Wa2 f_X_Wa2 HX_X_Wa2 k_X_0_Wa2 k_X_1_Wa2 k_X_2_Wa2 hl_Y_Wa2 f_Y_Wa2 HX_Y_Wa2 k_Y_0_Wa2 k_Y_1_Wa2 k_Y_2_Wa2 hl_Z_Wa2 f_Z_Wa2 HX_Z_Wa2 k_Z_0_Wa2 k_Z_1_Wa2 k_Z_2_Wa2 Hxa1_Wa2 Hxa2_Wa2 Hya1_Wa2 Hya2_Wa2 Hza1_Wa2 Hza2_Wa2
  go_region_held3 (fun w' => w'.cell? ⟨wa0.heap.size, 0, none⟩ = some (.bool (decide ((m1).num < 0))) ∧ w'.cell? ⟨wa0.heap.size, 1, none⟩ = some (.slice rxa (nlen (m1).num.natAbs) cxa) ∧ w'.cell? ⟨wa0.heap.size, 2, none⟩ = some (.slice rxa2 (nlen (m1).den) cxa2) ∧ w'.cell? ⟨wa1.heap.size, 0, none⟩ = some (.bool (decide ((m2).num < 0))) ∧ w'.cell? ⟨wa1.heap.size, 1, none⟩ = some (.slice rya (nlen (m2).num.natAbs) cya) ∧ w'.cell? ⟨wa1.heap.size, 2, none⟩ = some (.slice rya2 (nlen (m2).den) cya2) ∧ w'.cell? ⟨wa2.heap.size, 0, none⟩ = some (.bool (decide ((m3).num < 0))) ∧ w'.cell? ⟨wa2.heap.size, 1, none⟩ = some (.slice rza (nlen (m3).num.natAbs) cza) ∧ w'.cell? ⟨wa2.heap.size, 2, none⟩ = some (.slice rza2 (nlen (m3).den) cza2))
    (first | (go_keep; done) | ((try dsimp only); (repeat' apply And.intro) <;> (first | (go_keep; done) | (exact cell_keep_alloc_drew (by first | omega | (simp; omega)) (by first | assumption | go_simp)) | (exact cell_keep_alloc (by first | omega | (simp; omega)) (by first | assumption | go_simp)) | (rw [cell_set2 _ _ _ _ _ _ _ _ (by omega)]; assumption) | (rw [cell_set3 _ _ _ _ _ _ _ _ _ _ (by omega)]; assumption))))
    (first
      | (go_at_call 11; refine (radd_any (N := N) _ _ _ _ _ _ _ _ _ _ _ _ _ _ (L * 380 + 40) (L * 380 + 40) m1 m2 _ (by exact hN) (by exact Rt.of_norm Hxa1.out Hxa2.out (L * 380 + 40) HZm1.out) (by exact Rt.of_norm Hya1.out Hya2.out (L * 380 + 40) HZm2.out) (by omega) (by omega) m3 HSm3.out).mono ?_; rintro e waa ⟨rsa, csa, rsa2, csa2, rfl, hn, hn', hb⟩; replace hb : Below Wa2.heap.size Wa2 waa := (by first | exact hb | exact bel_of_drew hb); have hN_waa : N ≤ waa.heap.size := Nat.le_trans hN hb.size; have hs_waa : Wa2.heap.size ≤ waa.heap.size := hb.size; have hs0_waa : w.heap.size ≤ waa.heap.size := Nat.le_trans hs0 hb.size; have hl_X_waa : wa0.heap.size < waa.heap.size := Nat.lt_of_lt_of_le hl_X hb.size; have k_X_0_waa : waa.cell? ⟨wa0.heap.size, 0, none⟩ = some (.bool (decide ((m1).num < 0))) := (hb.cell (p := ⟨wa0.heap.size, 0, none⟩) hl_X).trans k_X_0; have k_X_1_waa : waa.cell? ⟨wa0.heap.size, 1, none⟩ = some (.slice rxa (nlen (m1).num.natAbs) cxa) := (hb.cell (p := ⟨wa0.heap.size, 1, none⟩) hl_X).trans k_X_1; have k_X_2_waa : waa.cell? ⟨wa0.heap.size, 2, none⟩ = some (.slice rxa2 (nlen (m1).den) cxa2) := (hb.cell (p := ⟨wa0.heap.size, 2, none⟩) hl_X).trans k_X_2; have f_X_waa : ∀ o, waa.frozen? ⟨wa0.heap.size, o, none⟩ = false := fun o => (hb.frozen (p := ⟨wa0.heap.size, o, none⟩) hl_X).trans (f_X o); have HX_X_waa := Lib.hid (HX_X.out.below hb); have hl_Y_waa : wa1.heap.size < waa.heap.size := Nat.lt_of_lt_of_le hl_Y hb.size; have k_Y_0_waa : waa.cell? ⟨wa1.heap.size, 0, none⟩ = some (.bool (decide ((m2).num < 0))) := (hb.cell (p := ⟨wa1.heap.size, 0, none⟩) hl_Y).trans k_Y_0; have k_Y_1_waa : waa.cell? ⟨wa1.heap.size, 1, none⟩ = some (.slice rya (nlen (m2).num.natAbs) cya) := (hb.cell (p := ⟨wa1.heap.size, 1, none⟩) hl_Y).trans k_Y_1; have k_Y_2_waa : waa.cell? ⟨wa1.heap.size, 2, none⟩ = some (.slice rya2 (nlen (m2).den) cya2) := (hb.cell (p := ⟨wa1.heap.size, 2, none⟩) hl_Y).trans k_Y_2; have f_Y_waa : ∀ o, waa.frozen? ⟨wa1.heap.size, o, none⟩ = false := fun o => (hb.frozen (p := ⟨wa1.heap.size, o, none⟩) hl_Y).trans (f_Y o); have HX_Y_waa := Lib.hid (HX_Y.out.below hb); have hl_Z_waa : wa2.heap.size < waa.heap.size := Nat.lt_of_lt_of_le hl_Z hb.size; have k_Z_0_waa : waa.cell? ⟨wa2.heap.size, 0, none⟩ = some (.bool (decide ((m3).num < 0))) := (hb.cell (p := ⟨wa2.heap.size, 0, none⟩) hl_Z).trans k_Z_0; have k_Z_1_waa : waa.cell? ⟨wa2.heap.size, 1, none⟩ = some (.slice rza (nlen (m3).num.natAbs) cza) := (hb.cell (p := ⟨wa2.heap.size, 1, none⟩) hl_Z).trans k_Z_1; have k_Z_2_waa : waa.cell? ⟨wa2.heap.size, 2, none⟩ = some (.slice rza2 (nlen (m3).den) cza2) := (hb.cell (p := ⟨wa2.heap.size, 2, none⟩) hl_Z).trans k_Z_2; have f_Z_waa : ∀ o, waa.frozen? ⟨wa2.heap.size, o, none⟩ = false := fun o => (hb.frozen (p := ⟨wa2.heap.size, o, none⟩) hl_Z).trans (f_Z o); have HX_Z_waa := Lib.hid (HX_Z.out.below hb); have Hxa1_waa := Lib.hid (Hxa1.out.below hb); have Hxa2_waa := Lib.hid (Hxa2.out.below hb); have Hya1_waa := Lib.hid (Hya1.out.below hb); have Hya2_waa := Lib.hid (Hya2.out.below hb); have Hza1_waa := Lib.hid (Hza1.out.below hb); have Hza2_waa := Lib.hid (Hza2.out.below hb); have HB_waa := Lib.hid (HB.out.trans (hb.mono hs0)); clear hb; clear hl_X f_X HX_X k_X_0 k_X_1 k_X_2 hl_Y f_Y HX_Y k_Y_0 k_Y_1 k_Y_2 hl_Z f_Z HX_Z k_Z_0 k_Z_1 k_Z_2 Hxa1 Hxa2 Hya1 Hya2 Hza1 Hza2 HB hN hs0; have hN := hN_waa; have HB := HB_waa; have hs0 := hs0_waa; have hl_X := hl_X_waa; have f_X := f_X_waa; have HX_X := HX_X_waa; have k_X_0 := k_X_0_waa; have k_X_1 := k_X_1_waa; have k_X_2 := k_X_2_waa; have hl_Y := hl_Y_waa; have f_Y := f_Y_waa; have HX_Y := HX_Y_waa; have k_Y_0 := k_Y_0_waa; have k_Y_1 := k_Y_1_waa; have k_Y_2 := k_Y_2_waa; have hl_Z := hl_Z_waa; have f_Z := f_Z_waa; have HX_Z := HX_Z_waa; have k_Z_0 := k_Z_0_waa; have k_Z_1 := k_Z_1_waa; have k_Z_2 := k_Z_2_waa; have Hxa1 := Hxa1_waa; have Hxa2 := Hxa2_waa; have Hya1 := Hya1_waa; have Hya2 := Hya2_waa; have Hza1 := Hza1_waa; have Hza2 := Hza2_waa; clear hN_waa HB_waa hs0_waa hl_X_waa f_X_waa HX_X_waa k_X_0_waa k_X_1_waa k_X_2_waa hl_Y_waa f_Y_waa HX_Y_waa k_Y_0_waa k_Y_1_waa k_Y_2_waa hl_Z_waa f_Z_waa HX_Z_waa k_Z_0_waa k_Z_1_waa k_Z_2_waa Hxa1_waa Hxa2_waa Hya1_waa Hya2_waa Hza1_waa Hza2_waa; have HSa1 := Lib.hid hn; clear hn; have HSa2 := Lib.hid hn'; clear hn'; skip)
      | (go_at_call 16; refine (rcmp_0 (N := N) _ _ _ _ _ _ _ _ _ _ _ _ _ _ (L * 380 + 40) (L * 380 + 40) m3 _ (by exact hN) (by exact Rt.of_norm HSa1.out HSa2.out (L * 380 + 40) HZm3.out) (by exact Rt.of_norm Hza1.out Hza2.out (L * 380 + 40) HZm3.out) (by omega) (by omega)).mono ?_; rintro e wba ⟨rfl, hb⟩; replace hb : Below waa.heap.size waa wba := (by first | exact hb | exact bel_of_drew hb); have hN_wba : N ≤ wba.heap.size := Nat.le_trans hN hb.size; have hs_wba : waa.heap.size ≤ wba.heap.size := hb.size; have hs0_wba : w.heap.size ≤ wba.heap.size := Nat.le_trans hs0 hb.size; have hl_X_wba : wa0.heap.size < wba.heap.size := Nat.lt_of_lt_of_le hl_X hb.size; have k_X_0_wba : wba.cell? ⟨wa0.heap.size, 0, none⟩ = some (.bool (decide ((m1).num < 0))) := (hb.cell (p := ⟨wa0.heap.size, 0, none⟩) hl_X).trans k_X_0; have k_X_1_wba : wba.cell? ⟨wa0.heap.size, 1, none⟩ = some (.slice rxa (nlen (m1).num.natAbs) cxa) := (hb.cell (p := ⟨wa0.heap.size, 1, none⟩) hl_X).trans k_X_1; have k_X_2_wba : wba.cell? ⟨wa0.heap.size, 2, none⟩ = some (.slice rxa2 (nlen (m1).den) cxa2) := (hb.cell (p := ⟨wa0.heap.size, 2, none⟩) hl_X).trans k_X_2; have f_X_wba : ∀ o, wba.frozen? ⟨wa0.heap.size, o, none⟩ = false := fun o => (hb.frozen (p := ⟨wa0.heap.size, o, none⟩) hl_X).trans (f_X o); have HX_X_wba := Lib.hid (HX_X.out.below hb); have hl_Y_wba : wa1.heap.size < wba.heap.size := Nat.lt_of_lt_of_le hl_Y hb.size; have k_Y_0_wba : wba.cell? ⟨wa1.heap.size, 0, none⟩ = some (.bool (decide ((m2).num < 0))) := (hb.cell (p := ⟨wa1.heap.size, 0, none⟩) hl_Y).trans k_Y_0; have k_Y_1_wba : wba.cell? ⟨wa1.heap.size, 1, none⟩ = some (.slice rya (nlen (m2).num.natAbs) cya) := (hb.cell (p := ⟨wa1.heap.size, 1, none⟩) hl_Y).trans k_Y_1; have k_Y_2_wba : wba.cell? ⟨wa1.heap.size, 2, none⟩ = some (.slice rya2 (nlen (m2).den) cya2) := (hb.cell (p := ⟨wa1.heap.size, 2, none⟩) hl_Y).trans k_Y_2; have f_Y_wba : ∀ o, wba.frozen? ⟨wa1.heap.size, o, none⟩ = false := fun o => (hb.frozen (p := ⟨wa1.heap.size, o, none⟩) hl_Y).trans (f_Y o); have HX_Y_wba := Lib.hid (HX_Y.out.below hb); have hl_Z_wba : wa2.heap.size < wba.heap.size := Nat.lt_of_lt_of_le hl_Z hb.size; have k_Z_0_wba : wba.cell? ⟨wa2.heap.size, 0, none⟩ = some (.bool (decide ((m3).num < 0))) := (hb.cell (p := ⟨wa2.heap.size, 0, none⟩) hl_Z).trans k_Z_0; have k_Z_1_wba : wba.cell? ⟨wa2.heap.size, 1, none⟩ = some (.slice rza (nlen (m3).num.natAbs) cza) := (hb.cell (p := ⟨wa2.heap.size, 1, none⟩) hl_Z).trans k_Z_1; have k_Z_2_wba : wba.cell? ⟨wa2.heap.size, 2, none⟩ = some (.slice rza2 (nlen (m3).den) cza2) := (hb.cell (p := ⟨wa2.heap.size, 2, none⟩) hl_Z).trans k_Z_2; have f_Z_wba : ∀ o, wba.frozen? ⟨wa2.heap.size, o, none⟩ = false := fun o => (hb.frozen (p := ⟨wa2.heap.size, o, none⟩) hl_Z).trans (f_Z o); have HX_Z_wba := Lib.hid (HX_Z.out.below hb); have Hxa1_wba := Lib.hid (Hxa1.out.below hb); have Hxa2_wba := Lib.hid (Hxa2.out.below hb); have Hya1_wba := Lib.hid (Hya1.out.below hb); have Hya2_wba := Lib.hid (Hya2.out.below hb); have Hza1_wba := Lib.hid (Hza1.out.below hb); have Hza2_wba := Lib.hid (Hza2.out.below hb); have HSa1_wba := Lib.hid (HSa1.out.below hb); have HSa2_wba := Lib.hid (HSa2.out.below hb); have HB_wba := Lib.hid (HB.out.trans (hb.mono hs0)); clear hb; clear hl_X f_X HX_X k_X_0 k_X_1 k_X_2 hl_Y f_Y HX_Y k_Y_0 k_Y_1 k_Y_2 hl_Z f_Z HX_Z k_Z_0 k_Z_1 k_Z_2 Hxa1 Hxa2 Hya1 Hya2 Hza1 Hza2 HSa1 HSa2 HB hN hs0; have hN := hN_wba; have HB := HB_wba; have hs0 := hs0_wba; have hl_X := hl_X_wba; have f_X := f_X_wba; have HX_X := HX_X_wba; have k_X_0 := k_X_0_wba; have k_X_1 := k_X_1_wba; have k_X_2 := k_X_2_wba; have hl_Y := hl_Y_wba; have f_Y := f_Y_wba; have HX_Y := HX_Y_wba; have k_Y_0 := k_Y_0_wba; have k_Y_1 := k_Y_1_wba; have k_Y_2 := k_Y_2_wba; have hl_Z := hl_Z_wba; have f_Z := f_Z_wba; have HX_Z := HX_Z_wba; have k_Z_0 := k_Z_0_wba; have k_Z_1 := k_Z_1_wba; have k_Z_2 := k_Z_2_wba; have Hxa1 := Hxa1_wba; have Hxa2 := Hxa2_wba; have Hya1 := Hya1_wba; have Hya2 := Hya2_wba; have Hza1 := Hza1_wba; have Hza2 := Hza2_wba; have HSa1 := HSa1_wba; have HSa2 := HSa2_wba; clear hN_wba HB_wba hs0_wba hl_X_wba f_X_wba HX_X_wba k_X_0_wba k_X_1_wba k_X_2_wba hl_Y_wba f_Y_wba HX_Y_wba k_Y_0_wba k_Y_1_wba k_Y_2_wba hl_Z_wba f_Z_wba HX_Z_wba k_Z_0_wba k_Z_1_wba k_Z_2_wba Hxa1_wba Hxa2_wba Hya1_wba Hya2_wba Hza1_wba Hza2_wba HSa1_wba HSa2_wba; skip))
  clear HSa1
  clear HSa2
  clear Hxa1
  clear Hxa2
  clear Hya1
  clear Hya2
  clear Hza1
  clear Hza2
  go_wp2_with fail
  refine (Variance_ok (N := N) _ _ _ x L _ hN (HA.out.below HB.out) hL Hv1.out s1 Hs1.out).mono ?_
  rintro e wb0 ⟨rxb, cxb, rxb2, cxb2, rfl, hn, hn', hb⟩
  have hN_wb0 : N ≤ wb0.heap.size := Nat.le_trans hN hb.size
  have hs_wb0 : wba.heap.size ≤ wb0.heap.size := hb.size
  have hs0_wb0 : w.heap.size ≤ wb0.heap.size := Nat.le_trans hs0 hb.size
  have hl_X_wb0 : wa0.heap.size < wb0.heap.size := Nat.lt_of_lt_of_le hl_X hb.size
  have k_X_0_wb0 : wb0.cell? ⟨wa0.heap.size, 0, none⟩ = some (.bool (decide ((m1).num < 0))) := (hb.cell (p := ⟨wa0.heap.size, 0, none⟩) hl_X).trans k_X_0
  have k_X_1_wb0 : wb0.cell? ⟨wa0.heap.size, 1, none⟩ = some (.slice rxa (nlen (m1).num.natAbs) cxa) := (hb.cell (p := ⟨wa0.heap.size, 1, none⟩) hl_X).trans k_X_1
  have k_X_2_wb0 : wb0.cell? ⟨wa0.heap.size, 2, none⟩ = some (.slice rxa2 (nlen (m1).den) cxa2) := (hb.cell (p := ⟨wa0.heap.size, 2, none⟩) hl_X).trans k_X_2
  have f_X_wb0 : ∀ o, wb0.frozen? ⟨wa0.heap.size, o, none⟩ = false := fun o => (hb.frozen (p := ⟨wa0.heap.size, o, none⟩) hl_X).trans (f_X o)
  have HX_X_wb0 := Lib.hid (HX_X.out.below hb)
  have hl_Y_wb0 : wa1.heap.size < wb0.heap.size := Nat.lt_of_lt_of_le hl_Y hb.size
  have k_Y_0_wb0 : wb0.cell? ⟨wa1.heap.size, 0, none⟩ = some (.bool (decide ((m2).num < 0))) := (hb.cell (p := ⟨wa1.heap.size, 0, none⟩) hl_Y).trans k_Y_0
  have k_Y_1_wb0 : wb0.cell? ⟨wa1.heap.size, 1, none⟩ = some (.slice rya (nlen (m2).num.natAbs) cya) := (hb.cell (p := ⟨wa1.heap.size, 1, none⟩) hl_Y).trans k_Y_1
  have k_Y_2_wb0 : wb0.cell? ⟨wa1.heap.size, 2, none⟩ = some (.slice rya2 (nlen (m2).den) cya2) := (hb.cell (p := ⟨wa1.heap.size, 2, none⟩) hl_Y).trans k_Y_2
  have f_Y_wb0 : ∀ o, wb0.frozen? ⟨wa1.heap.size, o, none⟩ = false := fun o => (hb.frozen (p := ⟨wa1.heap.size, o, none⟩) hl_Y).trans (f_Y o)
  have HX_Y_wb0 := Lib.hid (HX_Y.out.below hb)
  have hl_Z_wb0 : wa2.heap.size < wb0.heap.size := Nat.lt_of_lt_of_le hl_Z hb.size
  have k_Z_0_wb0 : wb0.cell? ⟨wa2.heap.size, 0, none⟩ = some (.bool (decide ((m3).num < 0))) := (hb.cell (p := ⟨wa2.heap.size, 0, none⟩) hl_Z).trans k_Z_0
  have k_Z_1_wb0 : wb0.cell? ⟨wa2.heap.size, 1, none⟩ = some (.slice rza (nlen (m3).num.natAbs) cza) := (hb.cell (p := ⟨wa2.heap.size, 1, none⟩) hl_Z).trans k_Z_1
  have k_Z_2_wb0 : wb0.cell? ⟨wa2.heap.size, 2, none⟩ = some (.slice rza2 (nlen (m3).den) cza2) := (hb.cell (p := ⟨wa2.heap.size, 2, none⟩) hl_Z).trans k_Z_2
  have f_Z_wb0 : ∀ o, wb0.frozen? ⟨wa2.heap.size, o, none⟩ = false := fun o => (hb.frozen (p := ⟨wa2.heap.size, o, none⟩) hl_Z).trans (f_Z o)
  have HX_Z_wb0 := Lib.hid (HX_Z.out.below hb)
  have HB_wb0 := Lib.hid (HB.out.trans (hb.mono hs0))
  clear hb
  clear hl_X f_X HX_X k_X_0 k_X_1 k_X_2 hl_Y f_Y HX_Y k_Y_0 k_Y_1 k_Y_2 hl_Z f_Z HX_Z k_Z_0 k_Z_1 k_Z_2 HB hN hs0
  have hN := hN_wb0
  have HB := HB_wb0
  have hs0 := hs0_wb0
  have hl_X := hl_X_wb0
  have f_X := f_X_wb0
  have HX_X := HX_X_wb0
  have k_X_0 := k_X_0_wb0
  have k_X_1 := k_X_1_wb0
  have k_X_2 := k_X_2_wb0
  have hl_Y := hl_Y_wb0
  have f_Y := f_Y_wb0
  have HX_Y := HX_Y_wb0
  have k_Y_0 := k_Y_0_wb0
  have k_Y_1 := k_Y_1_wb0
  have k_Y_2 := k_Y_2_wb0
  have hl_Z := hl_Z_wb0
  have f_Z := f_Z_wb0
  have HX_Z := HX_Z_wb0
  have k_Z_0 := k_Z_0_wb0
  have k_Z_1 := k_Z_1_wb0
  have k_Z_2 := k_Z_2_wb0
  clear hN_wb0 HB_wb0 hs0_wb0 hl_X_wb0 f_X_wb0 HX_X_wb0 k_X_0_wb0 k_X_1_wb0 k_X_2_wb0 hl_Y_wb0 f_Y_wb0 HX_Y_wb0 k_Y_0_wb0 k_Y_1_wb0 k_Y_2_wb0 hl_Z_wb0 f_Z_wb0 HX_Z_wb0 k_Z_0_wb0 k_Z_1_wb0 k_Z_2_wb0
  have Hxb1 := Lib.hid hn
  clear hn
  have Hxb2 := Lib.hid hn'
  clear hn'
  go_wp2_with fail
  refine calls_name fun Wb0 hW => ?_
  have hN_Wb0 : N ≤ Wb0.heap.size := by rw [← hW]; (first | omega | (simp; done) | (simp; omega))
  have hs_Wb0 : wb0.heap.size ≤ Wb0.heap.size := by rw [← hW]; (first | omega | (simp; done) | (simp; omega))
  have hs0_Wb0 : w.heap.size ≤ Wb0.heap.size := by rw [← hW]; (first | omega | (simp; done) | (simp; omega))
  have hl_X_Wb0 : wa0.heap.size < Wb0.heap.size := by rw [← hW]; (first | omega | (simp; done) | (simp; omega))
  have k_X_0_Wb0 : Wb0.cell? ⟨wa0.heap.size, 0, none⟩ = some (.bool (decide ((s1).num < 0))) := by rw [← hW]; (first | (go_simp; done) | (simp [go_sem, k_X_0]; done) | (simp [go_sem, k_X_0, k_X_1, k_X_2]; done) | (simp [go_sem, k_X_0, k_X_1, k_X_2, k_Y_0, k_Y_1, k_Y_2, k_Z_0, k_Z_1, k_Z_2, f_X, f_Y, f_Z, hl_X, hl_Y, hl_Z]; done))
  have k_X_1_Wb0 : Wb0.cell? ⟨wa0.heap.size, 1, none⟩ = some (.slice rxb (nlen (s1).num.natAbs) cxb) := by rw [← hW]; (first | (go_simp; done) | (simp [go_sem, k_X_1]; done) | (simp [go_sem, k_X_0, k_X_1, k_X_2]; done) | (simp [go_sem, k_X_0, k_X_1, k_X_2, k_Y_0, k_Y_1, k_Y_2, k_Z_0, k_Z_1, k_Z_2, f_X, f_Y, f_Z, hl_X, hl_Y, hl_Z]; done))
  have k_X_2_Wb0 : Wb0.cell? ⟨wa0.heap.size, 2, none⟩ = some (.slice rxb2 (nlen (s1).den) cxb2) := by rw [← hW]; (first | (go_simp; done) | (simp [go_sem, k_X_2]; done) | (simp [go_sem, k_X_0, k_X_1, k_X_2]; done) | (simp [go_sem, k_X_0, k_X_1, k_X_2, k_Y_0, k_Y_1, k_Y_2, k_Z_0, k_Z_1, k_Z_2, f_X, f_Y, f_Z, hl_X, hl_Y, hl_Z]; done))
  have f_X_Wb0 : ∀ o, Wb0.frozen? ⟨wa0.heap.size, o, none⟩ = false := by intro o; rw [← hW]; (first | with_reducible exact f_X o | (simp [go_sem, f_X]; done) | (simp [go_sem, f_X, hl_X]; done) | (go_simp; done) | (simp [go_sem, k_X_0, k_X_1, k_X_2, k_Y_0, k_Y_1, k_Y_2, k_Z_0, k_Z_1, k_Z_2, f_X, f_Y, f_Z, hl_X, hl_Y, hl_Z]; done))
  have HX_X_Wb0 := Lib.hid (show Bn Wb0 (wa0.heap.size) by rw [← hW]; (repeat' (first | with_reducible exact Kp.refl _ _ | with_reducible exact HX_X.out | with_reducible exact HX_Y.out | with_reducible exact HX_Z.out | with_reducible apply Kp.alloc | with_reducible apply Kp.drew | (with_reducible refine Kp.put ?_ ?_ ?_ _; rotate_left; (focus (first | omega | (simp; done) | (simp; omega))); rotate_left) | (with_reducible refine Bn.new _ _ _ _ ?_ ?_; (focus (first | omega | (simp; done) | (simp; omega))); decide) | with_reducible apply Bn.alloc | with_reducible apply Bn.drew | with_reducible apply Bn.set)))
  have hl_Y_Wb0 : wa1.heap.size < Wb0.heap.size := by rw [← hW]; (first | omega | (simp; done) | (simp; omega))
  have k_Y_0_Wb0 : Wb0.cell? ⟨wa1.heap.size, 0, none⟩ = some (.bool (decide ((m2).num < 0))) := by rw [← hW]; (first | with_reducible exact k_Y_0 | (simp [go_sem, k_Y_0]; done) | (simp [go_sem, k_Y_0, hl_Y]; done) | (go_simp; done) | (simp [go_sem, k_X_0, k_X_1, k_X_2, k_Y_0, k_Y_1, k_Y_2, k_Z_0, k_Z_1, k_Z_2, f_X, f_Y, f_Z, hl_X, hl_Y, hl_Z]; done))
  have k_Y_1_Wb0 : Wb0.cell? ⟨wa1.heap.size, 1, none⟩ = some (.slice rya (nlen (m2).num.natAbs) cya) := by rw [← hW]; (first | with_reducible exact k_Y_1 | (simp [go_sem, k_Y_1]; done) | (simp [go_sem, k_Y_1, hl_Y]; done) | (go_simp; done) | (simp [go_sem, k_X_0, k_X_1, k_X_2, k_Y_0, k_Y_1, k_Y_2, k_Z_0, k_Z_1, k_Z_2, f_X, f_Y, f_Z, hl_X, hl_Y, hl_Z]; done))
  have k_Y_2_Wb0 : Wb0.cell? ⟨wa1.heap.size, 2, none⟩ = some (.slice rya2 (nlen (m2).den) cya2) := by rw [← hW]; (first | with_reducible exact k_Y_2 | (simp [go_sem, k_Y_2]; done) | (simp [go_sem, k_Y_2, hl_Y]; done) | (go_simp; done) | (simp [go_sem, k_X_0, k_X_1, k_X_2, k_Y_0, k_Y_1, k_Y_2, k_Z_0, k_Z_1, k_Z_2, f_X, f_Y, f_Z, hl_X, hl_Y, hl_Z]; done))
  have f_Y_Wb0 : ∀ o, Wb0.frozen? ⟨wa1.heap.size, o, none⟩ = false := by intro o; rw [← hW]; (first | with_reducible exact f_Y o | (simp [go_sem, f_Y]; done) | (simp [go_sem, f_Y, hl_Y]; done) | (go_simp; done) | (simp [go_sem, k_X_0, k_X_1, k_X_2, k_Y_0, k_Y_1, k_Y_2, k_Z_0, k_Z_1, k_Z_2, f_X, f_Y, f_Z, hl_X, hl_Y, hl_Z]; done))
  have HX_Y_Wb0 := Lib.hid (show Bn Wb0 (wa1.heap.size) by rw [← hW]; (repeat' (first | with_reducible exact Kp.refl _ _ | with_reducible exact HX_X.out | with_reducible exact HX_Y.out | with_reducible exact HX_Z.out | with_reducible apply Kp.alloc | with_reducible apply Kp.drew | (with_reducible refine Kp.put ?_ ?_ ?_ _; rotate_left; (focus (first | omega | (simp; done) | (simp; omega))); rotate_left) | (with_reducible refine Bn.new _ _ _ _ ?_ ?_; (focus (first | omega | (simp; done) | (simp; omega))); decide) | with_reducible apply Bn.alloc | with_reducible apply Bn.drew | with_reducible apply Bn.set)))
  have hl_Z_Wb0 : wa2.heap.size < Wb0.heap.size := by rw [← hW]; (first | omega | (simp; done) | (simp; omega))
  have k_Z_0_Wb0 : Wb0.cell? ⟨wa2.heap.size, 0, none⟩ = some (.bool (decide ((m3).num < 0))) := by rw [← hW]; (first | with_reducible exact k_Z_0 | (simp [go_sem, k_Z_0]; done) | (simp [go_sem, k_Z_0, hl_Z]; done) | (go_simp; done) | (simp [go_sem, k_X_0, k_X_1, k_X_2, k_Y_0, k_Y_1, k_Y_2, k_Z_0, k_Z_1, k_Z_2, f_X, f_Y, f_Z, hl_X, hl_Y, hl_Z]; done))
  have k_Z_1_Wb0 : Wb0.cell? ⟨wa2.heap.size, 1, none⟩ = some (.slice rza (nlen (m3).num.natAbs) cza) := by rw [← hW]; (first | with_reducible exact k_Z_1 | (simp [go_sem, k_Z_1]; done) | (simp [go_sem, k_Z_1, hl_Z]; done) | (go_simp; done) | (simp [go_sem, k_X_0, k_X_1, k_X_2, k_Y_0, k_Y_1, k_Y_2, k_Z_0, k_Z_1, k_Z_2, f_X, f_Y, f_Z, hl_X, hl_Y, hl_Z]; done))
  have k_Z_2_Wb0 : Wb0.cell? ⟨wa2.heap.size, 2, none⟩ = some (.slice rza2 (nlen (m3).den) cza2) := by rw [← hW]; (first | with_reducible exact k_Z_2 | (simp [go_sem, k_Z_2]; done) | (simp [go_sem, k_Z_2, hl_Z]; done) | (go_simp; done) | (simp [go_sem, k_X_0, k_X_1, k_X_2, k_Y_0, k_Y_1, k_Y_2, k_Z_0, k_Z_1, k_Z_2, f_X, f_Y, f_Z, hl_X, hl_Y, hl_Z]; done))
  have f_Z_Wb0 : ∀ o, Wb0.frozen? ⟨wa2.heap.size, o, none⟩ = false := by intro o; rw [← hW]; (first | with_reducible exact f_Z o | (simp [go_sem, f_Z]; done) | (simp [go_sem, f_Z, hl_Z]; done) | (go_simp; done) | (simp [go_sem, k_X_0, k_X_1, k_X_2, k_Y_0, k_Y_1, k_Y_2, k_Z_0, k_Z_1, k_Z_2, f_X, f_Y, f_Z, hl_X, hl_Y, hl_Z]; done))
  have HX_Z_Wb0 := Lib.hid (show Bn Wb0 (wa2.heap.size) by rw [← hW]; (repeat' (first | with_reducible exact Kp.refl _ _ | with_reducible exact HX_X.out | with_reducible exact HX_Y.out | with_reducible exact HX_Z.out | with_reducible apply Kp.alloc | with_reducible apply Kp.drew | (with_reducible refine Kp.put ?_ ?_ ?_ _; rotate_left; (focus (first | omega | (simp; done) | (simp; omega))); rotate_left) | (with_reducible refine Bn.new _ _ _ _ ?_ ?_; (focus (first | omega | (simp; done) | (simp; omega))); decide) | with_reducible apply Bn.alloc | with_reducible apply Bn.drew | with_reducible apply Bn.set)))
  have HK_Wb0 := Lib.hid (show Kp N wb0 Wb0 by rw [← hW]; (repeat' (first | with_reducible exact Kp.refl _ _ | with_reducible exact HX_X.out | with_reducible exact HX_Y.out | with_reducible exact HX_Z.out | with_reducible apply Kp.alloc | with_reducible apply Kp.drew | (with_reducible refine Kp.put ?_ ?_ ?_ _; rotate_left; (focus (first | omega | (simp; done) | (simp; omega))); rotate_left) | (with_reducible refine Bn.new _ _ _ _ ?_ ?_; (focus (first | omega | (simp; done) | (simp; omega))); decide) | with_reducible apply Bn.alloc | with_reducible apply Bn.drew | with_reducible apply Bn.set)))
  have Hxb1_Wb0 := Lib.hid (Hxb1.out.keep HK_Wb0.out)
  have Hxb2_Wb0 := Lib.hid (Hxb2.out.keep HK_Wb0.out)
  have HB_Wb0 := Lib.hid (show Below w.heap.size w Wb0 by rw [← hW]; (repeat' (first | with_reducible exact Below.refl _ _ | with_reducible exact HB.out | (with_reducible refine Below.alloc ?_ ?_ _; rotate_left; (focus (first | omega | (simp; done) | (simp; omega)))) | with_reducible apply Below.drew | (with_reducible refine Below.setCell ?_ ?_ _; rotate_left; (focus (first | omega | (simp; done) | (simp; omega)))))))
  clear hW HK_Wb0
  clear hl_X f_X HX_X k_X_0 k_X_1 k_X_2 hl_Y f_Y HX_Y k_Y_0 k_Y_1 k_Y_2 hl_Z f_Z HX_Z k_Z_0 k_Z_1 k_Z_2 Hxb1 Hxb2 HB hN hs0
  have hN := hN_Wb0
  have HB := HB_Wb0
  have hs0 := hs0_Wb0
  have hl_X := hl_X_Wb0
  have f_X := f_X_Wb0
  have HX_X := HX_X_Wb0
  have k_X_0 := k_X_0_Wb0
  have k_X_1 := k_X_1_Wb0
  have k_X_2 := k_X_2_Wb0
  have hl_Y := hl_Y_Wb0
  have f_Y := f_Y_Wb0
  have HX_Y := HX_Y_Wb0
  have k_Y_0 := k_Y_0_Wb0
  have k_Y_1 := k_Y_1_Wb0
  have k_Y_2 := k_Y_2_Wb0
  have hl_Z := hl_Z_Wb0
  have f_Z := f_Z_Wb0
  have HX_Z := HX_Z_Wb0
  have k_Z_0 := k_Z_0_Wb0
  have k_Z_1 := k_Z_1_Wb0
  have k_Z_2 := k_Z_2_Wb0
  have Hxb1 := Hxb1_Wb0
  have Hxb2 := Hxb2_Wb0
  clear hN_Wb0 HB_Wb0 hs0_Wb0 hl_X_Wb0 f_X_Wb0 HX_X_Wb0 k_X_0_Wb0 k_X_1_Wb0 k_X_2_Wb0 hl_Y_Wb0 f_Y_Wb0 HX_Y_Wb0 k_Y_0_Wb0 k_Y_1_Wb0 k_Y_2_Wb0 hl_Z_Wb0 f_Z_Wb0 HX_Z_Wb0 k_Z_0_Wb0 k_Z_1_Wb0 k_Z_2_Wb0 Hxb1_Wb0 Hxb2_Wb0
  refine (Variance_ok (N := N) _ _ _ y L _ hN (HC.out.below HB.out) hL Hv2.out s2 Hs2.out).mono ?_
  rintro e wb1 ⟨ryb, cyb, ryb2, cyb2, rfl, hn, hn', hb⟩
  have hN_wb1 : N ≤ wb1.heap.size := Nat.le_trans hN hb.size
  have hs_wb1 : Wb0.heap.size ≤ wb1.heap.size := hb.size
  have hs0_wb1 : w.heap.size ≤ wb1.heap.size := Nat.le_trans hs0 hb.size
  have hl_X_wb1 : wa0.heap.size < wb1.heap.size := Nat.lt_of_lt_of_le hl_X hb.size
  have k_X_0_wb1 : wb1.cell? ⟨wa0.heap.size, 0, none⟩ = some (.bool (decide ((s1).num < 0))) := (hb.cell (p := ⟨wa0.heap.size, 0, none⟩) hl_X).trans k_X_0
  have k_X_1_wb1 : wb1.cell? ⟨wa0.heap.size, 1, none⟩ = some (.slice rxb (nlen (s1).num.natAbs) cxb) := (hb.cell (p := ⟨wa0.heap.size, 1, none⟩) hl_X).trans k_X_1
  have k_X_2_wb1 : wb1.cell? ⟨wa0.heap.size, 2, none⟩ = some (.slice rxb2 (nlen (s1).den) cxb2) := (hb.cell (p := ⟨wa0.heap.size, 2, none⟩) hl_X).trans k_X_2
  have f_X_wb1 : ∀ o, wb1.frozen? ⟨wa0.heap.size, o, none⟩ = false := fun o => (hb.frozen (p := ⟨wa0.heap.size, o, none⟩) hl_X).trans (f_X o)
  have HX_X_wb1 := Lib.hid (HX_X.out.below hb)
  have hl_Y_wb1 : wa1.heap.size < wb1.heap.size := Nat.lt_of_lt_of_le hl_Y hb.size
  have k_Y_0_wb1 : wb1.cell? ⟨wa1.heap.size, 0, none⟩ = some (.bool (decide ((m2).num < 0))) := (hb.cell (p := ⟨wa1.heap.size, 0, none⟩) hl_Y).trans k_Y_0
  have k_Y_1_wb1 : wb1.cell? ⟨wa1.heap.size, 1, none⟩ = some (.slice rya (nlen (m2).num.natAbs) cya) := (hb.cell (p := ⟨wa1.heap.size, 1, none⟩) hl_Y).trans k_Y_1
  have k_Y_2_wb1 : wb1.cell? ⟨wa1.heap.size, 2, none⟩ = some (.slice rya2 (nlen (m2).den) cya2) := (hb.cell (p := ⟨wa1.heap.size, 2, none⟩) hl_Y).trans k_Y_2
  have f_Y_wb1 : ∀ o, wb1.frozen? ⟨wa1.heap.size, o, none⟩ = false := fun o => (hb.frozen (p := ⟨wa1.heap.size, o, none⟩) hl_Y).trans (f_Y o)
  have HX_Y_wb1 := Lib.hid (HX_Y.out.below hb)
  have hl_Z_wb1 : wa2.heap.size < wb1.heap.size := Nat.lt_of_lt_of_le hl_Z hb.size
  have k_Z_0_wb1 : wb1.cell? ⟨wa2.heap.size, 0, none⟩ = some (.bool (decide ((m3).num < 0))) := (hb.cell (p := ⟨wa2.heap.size, 0, none⟩) hl_Z).trans k_Z_0
  have k_Z_1_wb1 : wb1.cell? ⟨wa2.heap.size, 1, none⟩ = some (.slice rza (nlen (m3).num.natAbs) cza) := (hb.cell (p := ⟨wa2.heap.size, 1, none⟩) hl_Z).trans k_Z_1
  have k_Z_2_wb1 : wb1.cell? ⟨wa2.heap.size, 2, none⟩ = some (.slice rza2 (nlen (m3).den) cza2) := (hb.cell (p := ⟨wa2.heap.size, 2, none⟩) hl_Z).trans k_Z_2
  have f_Z_wb1 : ∀ o, wb1.frozen? ⟨wa2.heap.size, o, none⟩ = false := fun o => (hb.frozen (p := ⟨wa2.heap.size, o, none⟩) hl_Z).trans (f_Z o)
  have HX_Z_wb1 := Lib.hid (HX_Z.out.below hb)
  have Hxb1_wb1 := Lib.hid (Hxb1.out.below hb)
  have Hxb2_wb1 := Lib.hid (Hxb2.out.below hb)
  have HB_wb1 := Lib.hid (HB.out.trans (hb.mono hs0))
  clear hb
  clear hl_X f_X HX_X k_X_0 k_X_1 k_X_2 hl_Y f_Y HX_Y k_Y_0 k_Y_1 k_Y_2 hl_Z f_Z HX_Z k_Z_0 k_Z_1 k_Z_2 Hxb1 Hxb2 HB hN hs0
  have hN := hN_wb1
  have HB := HB_wb1
  have hs0 := hs0_wb1
  have hl_X := hl_X_wb1
  have f_X := f_X_wb1
  have HX_X := HX_X_wb1
  have k_X_0 := k_X_0_wb1
  have k_X_1 := k_X_1_wb1
  have k_X_2 := k_X_2_wb1
  have hl_Y := hl_Y_wb1
  have f_Y := f_Y_wb1
  have HX_Y := HX_Y_wb1
  have k_Y_0 := k_Y_0_wb1
  have k_Y_1 := k_Y_1_wb1
  have k_Y_2 := k_Y_2_wb1
  have hl_Z := hl_Z_wb1
  have f_Z := f_Z_wb1
  have HX_Z := HX_Z_wb1
  have k_Z_0 := k_Z_0_wb1
  have k_Z_1 := k_Z_1_wb1
  have k_Z_2 := k_Z_2_wb1
  have Hxb1 := Hxb1_wb1
  have Hxb2 := Hxb2_wb1
  clear hN_wb1 HB_wb1 hs0_wb1 hl_X_wb1 f_X_wb1 HX_X_wb1 k_X_0_wb1 k_X_1_wb1 k_X_2_wb1 hl_Y_wb1 f_Y_wb1 HX_Y_wb1 k_Y_0_wb1 k_Y_1_wb1 k_Y_2_wb1 hl_Z_wb1 f_Z_wb1 HX_Z_wb1 k_Z_0_wb1 k_Z_1_wb1 k_Z_2_wb1 Hxb1_wb1 Hxb2_wb1
  have Hyb1 := Lib.hid hn
  clear hn
  have Hyb2 := Lib.hid hn'
  clear hn'
  go_wp2_with fail
  refine calls_name fun Wb1 hW => ?_
  have hN_Wb1 : N ≤ Wb1.heap.size := by rw [← hW]; (first | omega | (simp; done) | (simp; omega))
  have hs_Wb1 : wb1.heap.size ≤ Wb1.heap.size := by rw [← hW]; (first | omega | (simp; done) | (simp; omega))
  have hs0_Wb1 : w.heap.size ≤ Wb1.heap.size := by rw [← hW]; (first | omega | (simp; done) | (simp; omega))
  have hl_X_Wb1 : wa0.heap.size < Wb1.heap.size := by rw [← hW]; (first | omega | (simp; done) | (simp; omega))
  have k_X_0_Wb1 : Wb1.cell? ⟨wa0.heap.size, 0, none⟩ = some (.bool (decide ((s1).num < 0))) := by rw [← hW]; (first | with_reducible exact k_X_0 | (simp [go_sem, k_X_0]; done) | (simp [go_sem, k_X_0, hl_X]; done) | (go_simp; done) | (simp [go_sem, k_X_0, k_X_1, k_X_2, k_Y_0, k_Y_1, k_Y_2, k_Z_0, k_Z_1, k_Z_2, f_X, f_Y, f_Z, hl_X, hl_Y, hl_Z]; done))
  have k_X_1_Wb1 : Wb1.cell? ⟨wa0.heap.size, 1, none⟩ = some (.slice rxb (nlen (s1).num.natAbs) cxb) := by rw [← hW]; (first | with_reducible exact k_X_1 | (simp [go_sem, k_X_1]; done) | (simp [go_sem, k_X_1, hl_X]; done) | (go_simp; done) | (simp [go_sem, k_X_0, k_X_1, k_X_2, k_Y_0, k_Y_1, k_Y_2, k_Z_0, k_Z_1, k_Z_2, f_X, f_Y, f_Z, hl_X, hl_Y, hl_Z]; done))
  have k_X_2_Wb1 : Wb1.cell? ⟨wa0.heap.size, 2, none⟩ = some (.slice rxb2 (nlen (s1).den) cxb2) := by rw [← hW]; (first | with_reducible exact k_X_2 | (simp [go_sem, k_X_2]; done) | (simp [go_sem, k_X_2, hl_X]; done) | (go_simp; done) | (simp [go_sem, k_X_0, k_X_1, k_X_2, k_Y_0, k_Y_1, k_Y_2, k_Z_0, k_Z_1, k_Z_2, f_X, f_Y, f_Z, hl_X, hl_Y, hl_Z]; done))
  have f_X_Wb1 : ∀ o, Wb1.frozen? ⟨wa0.heap.size, o, none⟩ = false := by intro o; rw [← hW]; (first | with_reducible exact f_X o | (simp [go_sem, f_X]; done) | (simp [go_sem, f_X, hl_X]; done) | (go_simp; done) | (simp [go_sem, k_X_0, k_X_1, k_X_2, k_Y_0, k_Y_1, k_Y_2, k_Z_0, k_Z_1, k_Z_2, f_X, f_Y, f_Z, hl_X, hl_Y, hl_Z]; done))
  have HX_X_Wb1 := Lib.hid (show Bn Wb1 (wa0.heap.size) by rw [← hW]; (repeat' (first | with_reducible exact Kp.refl _ _ | with_reducible exact HX_X.out | with_reducible exact HX_Y.out | with_reducible exact HX_Z.out | with_reducible apply Kp.alloc | with_reducible apply Kp.drew | (with_reducible refine Kp.put ?_ ?_ ?_ _; rotate_left; (focus (first | omega | (simp; done) | (simp; omega))); rotate_left) | (with_reducible refine Bn.new _ _ _ _ ?_ ?_; (focus (first | omega | (simp; done) | (simp; omega))); decide) | with_reducible apply Bn.alloc | with_reducible apply Bn.drew | with_reducible apply Bn.set)))
  have hl_Y_Wb1 : wa1.heap.size < Wb1.heap.size := by rw [← hW]; (first | omega | (simp; done) | (simp; omega))
  have k_Y_0_Wb1 : Wb1.cell? ⟨wa1.heap.size, 0, none⟩ = some (.bool (decide ((s2).num < 0))) := by rw [← hW]; (first | (go_simp; done) | (simp [go_sem, k_Y_0]; done) | (simp [go_sem, k_Y_0, k_Y_1, k_Y_2]; done) | (simp [go_sem, k_X_0, k_X_1, k_X_2, k_Y_0, k_Y_1, k_Y_2, k_Z_0, k_Z_1, k_Z_2, f_X, f_Y, f_Z, hl_X, hl_Y, hl_Z]; done))
  have k_Y_1_Wb1 : Wb1.cell? ⟨wa1.heap.size, 1, none⟩ = some (.slice ryb (nlen (s2).num.natAbs) cyb) := by rw [← hW]; (first | (go_simp; done) | (simp [go_sem, k_Y_1]; done) | (simp [go_sem, k_Y_0, k_Y_1, k_Y_2]; done) | (simp [go_sem, k_X_0, k_X_1, k_X_2, k_Y_0, k_Y_1, k_Y_2, k_Z_0, k_Z_1, k_Z_2, f_X, f_Y, f_Z, hl_X, hl_Y, hl_Z]; done))
  have k_Y_2_Wb1 : Wb1.cell? ⟨wa1.heap.size, 2, none⟩ = some (.slice ryb2 (nlen (s2).den) cyb2) := by rw [← hW]; (first | (go_simp; done) | (simp [go_sem, k_Y_2]; done) | (simp [go_sem, k_Y_0, k_Y_1, k_Y_2]; done) | (simp [go_sem, k_X_0, k_X_1, k_X_2, k_Y_0, k_Y_1, k_Y_2, k_Z_0, k_Z_1, k_Z_2, f_X, f_Y, f_Z, hl_X, hl_Y, hl_Z]; done))
  have f_Y_Wb1 : ∀ o, Wb1.frozen? ⟨wa1.heap.size, o, none⟩ = false := by intro o; rw [← hW]; (first | with_reducible exact f_Y o | (simp [go_sem, f_Y]; done) | (simp [go_sem, f_Y, hl_Y]; done) | (go_simp; done) | (simp [go_sem, k_X_0, k_X_1, k_X_2, k_Y_0, k_Y_1, k_Y_2, k_Z_0, k_Z_1, k_Z_2, f_X, f_Y, f_Z, hl_X, hl_Y, hl_Z]; done))
  have HX_Y_Wb1 := Lib.hid (show Bn Wb1 (wa1.heap.size) by rw [← hW]; (repeat' (first | with_reducible exact Kp.refl _ _ | with_reducible exact HX_X.out | with_reducible exact HX_Y.out | with_reducible exact HX_Z.out | with_reducible apply Kp.alloc | with_reducible apply Kp.drew | (with_reducible refine Kp.put ?_ ?_ ?_ _; rotate_left; (focus (first | omega | (simp; done) | (simp; omega))); rotate_left) | (with_reducible refine Bn.new _ _ _ _ ?_ ?_; (focus (first | omega | (simp; done) | (simp; omega))); decide) | with_reducible apply Bn.alloc | with_reducible apply Bn.drew | with_reducible apply Bn.set)))
  have hl_Z_Wb1 : wa2.heap.size < Wb1.heap.size := by rw [← hW]; (first | omega | (simp; done) | (simp; omega))
  have k_Z_0_Wb1 : Wb1.cell? ⟨wa2.heap.size, 0, none⟩ = some (.bool (decide ((m3).num < 0))) := by rw [← hW]; (first | with_reducible exact k_Z_0 | (simp [go_sem, k_Z_0]; done) | (simp [go_sem, k_Z_0, hl_Z]; done) | (go_simp; done) | (simp [go_sem, k_X_0, k_X_1, k_X_2, k_Y_0, k_Y_1, k_Y_2, k_Z_0, k_Z_1, k_Z_2, f_X, f_Y, f_Z, hl_X, hl_Y, hl_Z]; done))
  have k_Z_1_Wb1 : Wb1.cell? ⟨wa2.heap.size, 1, none⟩ = some (.slice rza (nlen (m3).num.natAbs) cza) := by rw [← hW]; (first | with_reducible exact k_Z_1 | (simp [go_sem, k_Z_1]; done) | (simp [go_sem, k_Z_1, hl_Z]; done) | (go_simp; done) | (simp [go_sem, k_X_0, k_X_1, k_X_2, k_Y_0, k_Y_1, k_Y_2, k_Z_0, k_Z_1, k_Z_2, f_X, f_Y, f_Z, hl_X, hl_Y, hl_Z]; done))
  have k_Z_2_Wb1 : Wb1.cell? ⟨wa2.heap.size, 2, none⟩ = some (.slice rza2 (nlen (m3).den) cza2) := by rw [← hW]; (first | with_reducible exact k_Z_2 | (simp [go_sem, k_Z_2]; done) | (simp [go_sem, k_Z_2, hl_Z]; done) | (go_simp; done) | (simp [go_sem, k_X_0, k_X_1, k_X_2, k_Y_0, k_Y_1, k_Y_2, k_Z_0, k_Z_1, k_Z_2, f_X, f_Y, f_Z, hl_X, hl_Y, hl_Z]; done))
  have f_Z_Wb1 : ∀ o, Wb1.frozen? ⟨wa2.heap.size, o, none⟩ = false := by intro o; rw [← hW]; (first | with_reducible exact f_Z o | (simp [go_sem, f_Z]; done) | (simp [go_sem, f_Z, hl_Z]; done) | (go_simp; done) | (simp [go_sem, k_X_0, k_X_1, k_X_2, k_Y_0, k_Y_1, k_Y_2, k_Z_0, k_Z_1, k_Z_2, f_X, f_Y, f_Z, hl_X, hl_Y, hl_Z]; done))
  have HX_Z_Wb1 := Lib.hid (show Bn Wb1 (wa2.heap.size) by rw [← hW]; (repeat' (first | with_reducible exact Kp.refl _ _ | with_reducible exact HX_X.out | with_reducible exact HX_Y.out | with_reducible exact HX_Z.out | with_reducible apply Kp.alloc | with_reducible apply Kp.drew | (with_reducible refine Kp.put ?_ ?_ ?_ _; rotate_left; (focus (first | omega | (simp; done) | (simp; omega))); rotate_left) | (with_reducible refine Bn.new _ _ _ _ ?_ ?_; (focus (first | omega | (simp; done) | (simp; omega))); decide) | with_reducible apply Bn.alloc | with_reducible apply Bn.drew | with_reducible apply Bn.set)))
  have HK_Wb1 := Lib.hid (show Kp N wb1 Wb1 by rw [← hW]; (repeat' (first | with_reducible exact Kp.refl _ _ | with_reducible exact HX_X.out | with_reducible exact HX_Y.out | with_reducible exact HX_Z.out | with_reducible apply Kp.alloc | with_reducible apply Kp.drew | (with_reducible refine Kp.put ?_ ?_ ?_ _; rotate_left; (focus (first | omega | (simp; done) | (simp; omega))); rotate_left) | (with_reducible refine Bn.new _ _ _ _ ?_ ?_; (focus (first | omega | (simp; done) | (simp; omega))); decide) | with_reducible apply Bn.alloc | with_reducible apply Bn.drew | with_reducible apply Bn.set)))
  have Hxb1_Wb1 := Lib.hid (Hxb1.out.keep HK_Wb1.out)
  have Hxb2_Wb1 := Lib.hid (Hxb2.out.keep HK_Wb1.out)
  have Hyb1_Wb1 := Lib.hid (Hyb1.out.keep HK_Wb1.out)
  have Hyb2_Wb1 := Lib.hid (Hyb2.out.keep HK_Wb1.out)
  have HB_Wb1 := Lib.hid (show Below w.heap.size w Wb1 by rw [← hW]; (repeat' (first | with_reducible exact Below.refl _ _ | with_reducible exact HB.out | (with_reducible refine Below.alloc ?_ ?_ _; rotate_left; (focus (first | omega | (simp; done) | (simp; omega)))) | with_reducible apply Below.drew | (with_reducible refine Below.setCell ?_ ?_ _; rotate_left; (focus (first | omega | (simp; done) | (simp; omega)))))))
  clear hW HK_Wb1
  clear hl_X f_X HX_X k_X_0 k_X_1 k_X_2 hl_Y f_Y HX_Y k_Y_0 k_Y_1 k_Y_2 hl_Z f_Z HX_Z k_Z_0 k_Z_1 k_Z_2 Hxb1 Hxb2 Hyb1 Hyb2 HB hN hs0
  have hN := hN_Wb1
  have HB := HB_Wb1
  have hs0 := hs0_Wb1
  have hl_X := hl_X_Wb1
  have f_X := f_X_Wb1
  have HX_X := HX_X_Wb1
  have k_X_0 := k_X_0_Wb1
  have k_X_1 := k_X_1_Wb1
  have k_X_2 := k_X_2_Wb1
  have hl_Y := hl_Y_Wb1
  have f_Y := f_Y_Wb1
  have HX_Y := HX_Y_Wb1
  have k_Y_0 := k_Y_0_Wb1
  have k_Y_1 := k_Y_1_Wb1
  have k_Y_2 := k_Y_2_Wb1
  have hl_Z := hl_Z_Wb1
  have f_Z := f_Z_Wb1
  have HX_Z := HX_Z_Wb1
  have k_Z_0 := k_Z_0_Wb1
  have k_Z_1 := k_Z_1_Wb1
  have k_Z_2 := k_Z_2_Wb1
  have Hxb1 := Hxb1_Wb1
  have Hxb2 := Hxb2_Wb1
  have Hyb1 := Hyb1_Wb1
  have Hyb2 := Hyb2_Wb1
  clear hN_Wb1 HB_Wb1 hs0_Wb1 hl_X_Wb1 f_X_Wb1 HX_X_Wb1 k_X_0_Wb1 k_X_1_Wb1 k_X_2_Wb1 hl_Y_Wb1 f_Y_Wb1 HX_Y_Wb1 k_Y_0_Wb1 k_Y_1_Wb1 k_Y_2_Wb1 hl_Z_Wb1 f_Z_Wb1 HX_Z_Wb1 k_Z_0_Wb1 k_Z_1_Wb1 k_Z_2_Wb1 Hxb1_Wb1 Hxb2_Wb1 Hyb1_Wb1 Hyb2_Wb1
  refine (Variance_ok (N := N) _ _ _ z L _ hN (HE.out.below HB.out) hL Hv3.out s3 Hs3.out).mono ?_
  rintro e wb2 ⟨rzb, czb, rzb2, czb2, rfl, hn, hn', hb⟩
  have hN_wb2 : N ≤ wb2.heap.size := Nat.le_trans hN hb.size
  have hs_wb2 : Wb1.heap.size ≤ wb2.heap.size := hb.size
  have hs0_wb2 : w.heap.size ≤ wb2.heap.size := Nat.le_trans hs0 hb.size
  have hl_X_wb2 : wa0.heap.size < wb2.heap.size := Nat.lt_of_lt_of_le hl_X hb.size
  have k_X_0_wb2 : wb2.cell? ⟨wa0.heap.size, 0, none⟩ = some (.bool (decide ((s1).num < 0))) := (hb.cell (p := ⟨wa0.heap.size, 0, none⟩) hl_X).trans k_X_0
  have k_X_1_wb2 : wb2.cell? ⟨wa0.heap.size, 1, none⟩ = some (.slice rxb (nlen (s1).num.natAbs) cxb) := (hb.cell (p := ⟨wa0.heap.size, 1, none⟩) hl_X).trans k_X_1
  have k_X_2_wb2 : wb2.cell? ⟨wa0.heap.size, 2, none⟩ = some (.slice rxb2 (nlen (s1).den) cxb2) := (hb.cell (p := ⟨wa0.heap.size, 2, none⟩) hl_X).trans k_X_2
  have f_X_wb2 : ∀ o, wb2.frozen? ⟨wa0.heap.size, o, none⟩ = false := fun o => (hb.frozen (p := ⟨wa0.heap.size, o, none⟩) hl_X).trans (f_X o)
  have HX_X_wb2 := Lib.hid (HX_X.out.below hb)
  have hl_Y_wb2 : wa1.heap.size < wb2.heap.size := Nat.lt_of_lt_of_le hl_Y hb.size
  have k_Y_0_wb2 : wb2.cell? ⟨wa1.heap.size, 0, none⟩ = some (.bool (decide ((s2).num < 0))) := (hb.cell (p := ⟨wa1.heap.size, 0, none⟩) hl_Y).trans k_Y_0
  have k_Y_1_wb2 : wb2.cell? ⟨wa1.heap.size, 1, none⟩ = some (.slice ryb (nlen (s2).num.natAbs) cyb) := (hb.cell (p := ⟨wa1.heap.size, 1, none⟩) hl_Y).trans k_Y_1
  have k_Y_2_wb2 : wb2.cell? ⟨wa1.heap.size, 2, none⟩ = some (.slice ryb2 (nlen (s2).den) cyb2) := (hb.cell (p := ⟨wa1.heap.size, 2, none⟩) hl_Y).trans k_Y_2
  have f_Y_wb2 : ∀ o, wb2.frozen? ⟨wa1.heap.size, o, none⟩ = false := fun o => (hb.frozen (p := ⟨wa1.heap.size, o, none⟩) hl_Y).trans (f_Y o)
  have HX_Y_wb2 := Lib.hid (HX_Y.out.below hb)
  have hl_Z_wb2 : wa2.heap.size < wb2.heap.size := Nat.lt_of_lt_of_le hl_Z hb.size
  have k_Z_0_wb2 : wb2.cell? ⟨wa2.heap.size, 0, none⟩ = some (.bool (decide ((m3).num < 0))) := (hb.cell (p := ⟨wa2.heap.size, 0, none⟩) hl_Z).trans k_Z_0
  have k_Z_1_wb2 : wb2.cell? ⟨wa2.heap.size, 1, none⟩ = some (.slice rza (nlen (m3).num.natAbs) cza) := (hb.cell (p := ⟨wa2.heap.size, 1, none⟩) hl_Z).trans k_Z_1
  have k_Z_2_wb2 : wb2.cell? ⟨wa2.heap.size, 2, none⟩ = some (.slice rza2 (nlen (m3).den) cza2) := (hb.cell (p := ⟨wa2.heap.size, 2, none⟩) hl_Z).trans k_Z_2
  have f_Z_wb2 : ∀ o, wb2.frozen? ⟨wa2.heap.size, o, none⟩ = false := fun o => (hb.frozen (p := ⟨wa2.heap.size, o, none⟩) hl_Z).trans (f_Z o)
  have HX_Z_wb2 := Lib.hid (HX_Z.out.below hb)
  have Hxb1_wb2 := Lib.hid (Hxb1.out.below hb)
  have Hxb2_wb2 := Lib.hid (Hxb2.out.below hb)
  have Hyb1_wb2 := Lib.hid (Hyb1.out.below hb)
  have Hyb2_wb2 := Lib.hid (Hyb2.out.below hb)
  have HB_wb2 := Lib.hid (HB.out.trans (hb.mono hs0))
  clear hb
  clear hl_X f_X HX_X k_X_0 k_X_1 k_X_2 hl_Y f_Y HX_Y k_Y_0 k_Y_1 k_Y_2 hl_Z f_Z HX_Z k_Z_0 k_Z_1 k_Z_2 Hxb1 Hxb2 Hyb1 Hyb2 HB hN hs0
  have hN := hN_wb2
  have HB := HB_wb2
  have hs0 := hs0_wb2
  have hl_X := hl_X_wb2
  have f_X := f_X_wb2
  have HX_X := HX_X_wb2
  have k_X_0 := k_X_0_wb2
  have k_X_1 := k_X_1_wb2
  have k_X_2 := k_X_2_wb2
  have hl_Y := hl_Y_wb2
  have f_Y := f_Y_wb2
  have HX_Y := HX_Y_wb2
  have k_Y_0 := k_Y_0_wb2
  have k_Y_1 := k_Y_1_wb2
  have k_Y_2 := k_Y_2_wb2
  have hl_Z := hl_Z_wb2
  have f_Z := f_Z_wb2
  have HX_Z := HX_Z_wb2
  have k_Z_0 := k_Z_0_wb2
  have k_Z_1 := k_Z_1_wb2
  have k_Z_2 := k_Z_2_wb2
  have Hxb1 := Hxb1_wb2
  have Hxb2 := Hxb2_wb2
  have Hyb1 := Hyb1_wb2
  have Hyb2 := Hyb2_wb2
  clear hN_wb2 HB_wb2 hs0_wb2 hl_X_wb2 f_X_wb2 HX_X_wb2 k_X_0_wb2 k_X_1_wb2 k_X_2_wb2 hl_Y_wb2 f_Y_wb2 HX_Y_wb2 k_Y_0_wb2 k_Y_1_wb2 k_Y_2_wb2 hl_Z_wb2 f_Z_wb2 HX_Z_wb2 k_Z_0_wb2 k_Z_1_wb2 k_Z_2_wb2 Hxb1_wb2 Hxb2_wb2 Hyb1_wb2 Hyb2_wb2
  have Hzb1 := Lib.hid hn
  clear hn
  have Hzb2 := Lib.hid hn'
  clear hn'
  go_wp2_with fail
  refine region_name fun Wb2 hW => ?_
  have hN_Wb2 : N ≤ Wb2.heap.size := by rw [← hW]; (first | omega | (simp; done) | (simp; omega))
  have hs_Wb2 : wb2.heap.size ≤ Wb2.heap.size := by rw [← hW]; (first | omega | (simp; done) | (simp; omega))
  have hs0_Wb2 : w.heap.size ≤ Wb2.heap.size := by rw [← hW]; (first | omega | (simp; done) | (simp; omega))
  have hl_X_Wb2 : wa0.heap.size < Wb2.heap.size := by rw [← hW]; (first | omega | (simp; done) | (simp; omega))
  have k_X_0_Wb2 : Wb2.cell? ⟨wa0.heap.size, 0, none⟩ = some (.bool (decide ((s1).num < 0))) := by rw [← hW]; (first | with_reducible exact k_X_0 | (simp [go_sem, k_X_0]; done) | (simp [go_sem, k_X_0, hl_X]; done) | (go_simp; done) | (simp [go_sem, k_X_0, k_X_1, k_X_2, k_Y_0, k_Y_1, k_Y_2, k_Z_0, k_Z_1, k_Z_2, f_X, f_Y, f_Z, hl_X, hl_Y, hl_Z]; done))
  have k_X_1_Wb2 : Wb2.cell? ⟨wa0.heap.size, 1, none⟩ = some (.slice rxb (nlen (s1).num.natAbs) cxb) := by rw [← hW]; (first | with_reducible exact k_X_1 | (simp [go_sem, k_X_1]; done) | (simp [go_sem, k_X_1, hl_X]; done) | (go_simp; done) | (simp [go_sem, k_X_0, k_X_1, k_X_2, k_Y_0, k_Y_1, k_Y_2, k_Z_0, k_Z_1, k_Z_2, f_X, f_Y, f_Z, hl_X, hl_Y, hl_Z]; done))
  have k_X_2_Wb2 : Wb2.cell? ⟨wa0.heap.size, 2, none⟩ = some (.slice rxb2 (nlen (s1).den) cxb2) := by rw [← hW]; (first | with_reducible exact k_X_2 | (simp [go_sem, k_X_2]; done) | (simp [go_sem, k_X_2, hl_X]; done) | (go_simp; done) | (simp [go_sem, k_X_0, k_X_1, k_X_2, k_Y_0, k_Y_1, k_Y_2, k_Z_0, k_Z_1, k_Z_2, f_X, f_Y, f_Z, hl_X, hl_Y, hl_Z]; done))
  have f_X_Wb2 : ∀ o, Wb2.frozen? ⟨wa0.heap.size, o, none⟩ = false := by intro o; rw [← hW]; (first | with_reducible exact f_X o | (simp [go_sem, f_X]; done) | (simp [go_sem, f_X, hl_X]; done) | (go_simp; done) | (simp [go_sem, k_X_0, k_X_1, k_X_2, k_Y_0, k_Y_1, k_Y_2, k_Z_0, k_Z_1, k_Z_2, f_X, f_Y, f_Z, hl_X, hl_Y, hl_Z]; done))
  have HX_X_Wb2 := Lib.hid (show Bn Wb2 (wa0.heap.size) by rw [← hW]; (repeat' (first | with_reducible exact Kp.refl _ _ | with_reducible exact HX_X.out | with_reducible exact HX_Y.out | with_reducible exact HX_Z.out | with_reducible apply Kp.alloc | with_reducible apply Kp.drew | (with_reducible refine Kp.put ?_ ?_ ?_ _; rotate_left; (focus (first | omega | (simp; done) | (simp; omega))); rotate_left) | (with_reducible refine Bn.new _ _ _ _ ?_ ?_; (focus (first | omega | (simp; done) | (simp; omega))); decide) | with_reducible apply Bn.alloc | with_reducible apply Bn.drew | with_reducible apply Bn.set)))
  have hl_Y_Wb2 : wa1.heap.size < Wb2.heap.size := by rw [← hW]; (first | omega | (simp; done) | (simp; omega))
  have k_Y_0_Wb2 : Wb2.cell? ⟨wa1.heap.size, 0, none⟩ = some (.bool (decide ((s2).num < 0))) := by rw [← hW]; (first | with_reducible exact k_Y_0 | (simp [go_sem, k_Y_0]; done) | (simp [go_sem, k_Y_0, hl_Y]; done) | (go_simp; done) | (simp [go_sem, k_X_0, k_X_1, k_X_2, k_Y_0, k_Y_1, k_Y_2, k_Z_0, k_Z_1, k_Z_2, f_X, f_Y, f_Z, hl_X, hl_Y, hl_Z]; done))
  have k_Y_1_Wb2 : Wb2.cell? ⟨wa1.heap.size, 1, none⟩ = some (.slice ryb (nlen (s2).num.natAbs) cyb) := by rw [← hW]; (first | with_reducible exact k_Y_1 | (simp [go_sem, k_Y_1]; done) | (simp [go_sem, k_Y_1, hl_Y]; done) | (go_simp; done) | (simp [go_sem, k_X_0, k_X_1, k_X_2, k_Y_0, k_Y_1, k_Y_2, k_Z_0, k_Z_1, k_Z_2, f_X, f_Y, f_Z, hl_X, hl_Y, hl_Z]; done))
  have k_Y_2_Wb2 : Wb2.cell? ⟨wa1.heap.size, 2, none⟩ = some (.slice ryb2 (nlen (s2).den) cyb2) := by rw [← hW]; (first | with_reducible exact k_Y_2 | (simp [go_sem, k_Y_2]; done) | (simp [go_sem, k_Y_2, hl_Y]; done) | (go_simp; done) | (simp [go_sem, k_X_0, k_X_1, k_X_2, k_Y_0, k_Y_1, k_Y_2, k_Z_0, k_Z_1, k_Z_2, f_X, f_Y, f_Z, hl_X, hl_Y, hl_Z]; done))
  have f_Y_Wb2 : ∀ o, Wb2.frozen? ⟨wa1.heap.size, o, none⟩ = false := by intro o; rw [← hW]; (first | with_reducible exact f_Y o | (simp [go_sem, f_Y]; done) | (simp [go_sem, f_Y, hl_Y]; done) | (go_simp; done) | (simp [go_sem, k_X_0, k_X_1, k_X_2, k_Y_0, k_Y_1, k_Y_2, k_Z_0, k_Z_1, k_Z_2, f_X, f_Y, f_Z, hl_X, hl_Y, hl_Z]; done))
  have HX_Y_Wb2 := Lib.hid (show Bn Wb2 (wa1.heap.size) by rw [← hW]; (repeat' (first | with_reducible exact Kp.refl _ _ | with_reducible exact HX_X.out | with_reducible exact HX_Y.out | with_reducible exact HX_Z.out | with_reducible apply Kp.alloc | with_reducible apply Kp.drew | (with_reducible refine Kp.put ?_ ?_ ?_ _; rotate_left; (focus (first | omega | (simp; done) | (simp; omega))); rotate_left) | (with_reducible refine Bn.new _ _ _ _ ?_ ?_; (focus (first | omega | (simp; done) | (simp; omega))); decide) | with_reducible apply Bn.alloc | with_reducible apply Bn.drew | with_reducible apply Bn.set)))
  have hl_Z_Wb2 : wa2.heap.size < Wb2.heap.size := by rw [← hW]; (first | omega | (simp; done) | (simp; omega))
  have k_Z_0_Wb2 : Wb2.cell? ⟨wa2.heap.size, 0, none⟩ = some (.bool (decide ((s3).num < 0))) := by rw [← hW]; (first | (go_simp; done) | (simp [go_sem, k_Z_0]; done) | (simp [go_sem, k_Z_0, k_Z_1, k_Z_2]; done) | (simp [go_sem, k_X_0, k_X_1, k_X_2, k_Y_0, k_Y_1, k_Y_2, k_Z_0, k_Z_1, k_Z_2, f_X, f_Y, f_Z, hl_X, hl_Y, hl_Z]; done))
  have k_Z_1_Wb2 : Wb2.cell? ⟨wa2.heap.size, 1, none⟩ = some (.slice rzb (nlen (s3).num.natAbs) czb) := by rw [← hW]; (first | (go_simp; done) | (simp [go_sem, k_Z_1]; done) | (simp [go_sem, k_Z_0, k_Z_1, k_Z_2]; done) | (simp [go_sem, k_X_0, k_X_1, k_X_2, k_Y_0, k_Y_1, k_Y_2, k_Z_0, k_Z_1, k_Z_2, f_X, f_Y, f_Z, hl_X, hl_Y, hl_Z]; done))
  have k_Z_2_Wb2 : Wb2.cell? ⟨wa2.heap.size, 2, none⟩ = some (.slice rzb2 (nlen (s3).den) czb2) := by rw [← hW]; (first | (go_simp; done) | (simp [go_sem, k_Z_2]; done) | (simp [go_sem, k_Z_0, k_Z_1, k_Z_2]; done) | (simp [go_sem, k_X_0, k_X_1, k_X_2, k_Y_0, k_Y_1, k_Y_2, k_Z_0, k_Z_1, k_Z_2, f_X, f_Y, f_Z, hl_X, hl_Y, hl_Z]; done))
  have f_Z_Wb2 : ∀ o, Wb2.frozen? ⟨wa2.heap.size, o, none⟩ = false := by intro o; rw [← hW]; (first | with_reducible exact f_Z o | (simp [go_sem, f_Z]; done) | (simp [go_sem, f_Z, hl_Z]; done) | (go_simp; done) | (simp [go_sem, k_X_0, k_X_1, k_X_2, k_Y_0, k_Y_1, k_Y_2, k_Z_0, k_Z_1, k_Z_2, f_X, f_Y, f_Z, hl_X, hl_Y, hl_Z]; done))
  have HX_Z_Wb2 := Lib.hid (show Bn Wb2 (wa2.heap.size) by rw [← hW]; (repeat' (first | with_reducible exact Kp.refl _ _ | with_reducible exact HX_X.out | with_reducible exact HX_Y.out | with_reducible exact HX_Z.out | with_reducible apply Kp.alloc | with_reducible apply Kp.drew | (with_reducible refine Kp.put ?_ ?_ ?_ _; rotate_left; (focus (first | omega | (simp; done) | (simp; omega))); rotate_left) | (with_reducible refine Bn.new _ _ _ _ ?_ ?_; (focus (first | omega | (simp; done) | (simp; omega))); decide) | with_reducible apply Bn.alloc | with_reducible apply Bn.drew | with_reducible apply Bn.set)))
  have HK_Wb2 := Lib.hid (show Kp N wb2 Wb2 by rw [← hW]; (repeat' (first | with_reducible exact Kp.refl _ _ | with_reducible exact HX_X.out | with_reducible exact HX_Y.out | with_reducible exact HX_Z.out | with_reducible apply Kp.alloc | with_reducible apply Kp.drew | (with_reducible refine Kp.put ?_ ?_ ?_ _; rotate_left; (focus (first | omega | (simp; done) | (simp; omega))); rotate_left) | (with_reducible refine Bn.new _ _ _ _ ?_ ?_; (focus (first | omega | (simp; done) | (simp; omega))); decide) | with_reducible apply Bn.alloc | with_reducible apply Bn.drew | with_reducible apply Bn.set)))
  have Hxb1_Wb2 := Lib.hid (Hxb1.out.keep HK_Wb2.out)
  have Hxb2_Wb2 := Lib.hid (Hxb2.out.keep HK_Wb2.out)
  have Hyb1_Wb2 := Lib.hid (Hyb1.out.keep HK_Wb2.out)
  have Hyb2_Wb2 := Lib.hid (Hyb2.out.keep HK_Wb2.out)
  have Hzb1_Wb2 := Lib.hid (Hzb1.out.keep HK_Wb2.out)
  have Hzb2_Wb2 := Lib.hid (Hzb2.out.keep HK_Wb2.out)
  have HB_Wb2 := Lib.hid (show Below w.heap.size w Wb2 by rw [← hW]; (repeat' (first | with_reducible exact Below.refl _ _ | with_reducible exact HB.out | (with_reducible refine Below.alloc ?_ ?_ _; rotate_left; (focus (first | omega | (simp; done) | (simp; omega)))) | with_reducible apply Below.drew | (with_reducible refine Below.setCell ?_ ?_ _; rotate_left; (focus (first | omega | (simp; done) | (simp; omega)))))))
  clear hW HK_Wb2
  clear hl_X f_X HX_X k_X_0 k_X_1 k_X_2 hl_Y f_Y HX_Y k_Y_0 k_Y_1 k_Y_2 hl_Z f_Z HX_Z k_Z_0 k_Z_1 k_Z_2 Hxb1 Hxb2 Hyb1 Hyb2 Hzb1 Hzb2 HB hN hs0
  have hN := hN_Wb2
  have HB := HB_Wb2
  have hs0 := hs0_Wb2
  have hl_X := hl_X_Wb2
  have f_X := f_X_Wb2
  have HX_X := HX_X_Wb2
  have k_X_0 := k_X_0_Wb2
  have k_X_1 := k_X_1_Wb2
  have k_X_2 := k_X_2_Wb2
  have hl_Y := hl_Y_Wb2
  have f_Y := f_Y_Wb2
  have HX_Y := HX_Y_Wb2
  have k_Y_0 := k_Y_0_Wb2
  have k_Y_1 := k_Y_1_Wb2
  have k_Y_2 := k_Y_2_Wb2
  have hl_Z := hl_Z_Wb2
  have f_Z := f_Z_Wb2
  have HX_Z := HX_Z_Wb2
  have k_Z_0 := k_Z_0_Wb2
  have k_Z_1 := k_Z_1_Wb2
  have k_Z_2 := k_Z_2_Wb2
  have Hxb1 := Hxb1_Wb2
  have Hxb2 := Hxb2_Wb2
  have Hyb1 := Hyb1_Wb2
  have Hyb2 := Hyb2_Wb2
  have Hzb1 := Hzb1_Wb2
  have Hzb2 := Hzb2_Wb2
  clear hN_Wb2 HB_Wb2 hs0_Wb2 hl_X_Wb2 f_X_Wb2 HX_X_Wb2 k_X_0_Wb2 k_X_1_Wb2 k_X_2_Wb2 hl_Y_Wb2 f_Y_Wb2 HX_Y_Wb2 k_Y_0_Wb2 k_Y_1_Wb2 k_Y_2_Wb2 hl_Z_Wb2 f_Z_Wb2 HX_Z_Wb2 k_Z_0_Wb2 k_Z_1_Wb2 k_Z_2_Wb2 Hxb1_Wb2 Hxb2_Wb2 Hyb1_Wb2 Hyb2_Wb2 Hzb1_Wb2 Hzb2_Wb2
  go_region_held3 (fun w' => w'.cell? ⟨wa0.heap.size, 0, none⟩ = some (.bool (decide ((s1).num < 0))) ∧ w'.cell? ⟨wa0.heap.size, 1, none⟩ = some (.slice rxb (nlen (s1).num.natAbs) cxb) ∧ w'.cell? ⟨wa0.heap.size, 2, none⟩ = some (.slice rxb2 (nlen (s1).den) cxb2) ∧ w'.cell? ⟨wa1.heap.size, 0, none⟩ = some (.bool (decide ((s2).num < 0))) ∧ w'.cell? ⟨wa1.heap.size, 1, none⟩ = some (.slice ryb (nlen (s2).num.natAbs) cyb) ∧ w'.cell? ⟨wa1.heap.size, 2, none⟩ = some (.slice ryb2 (nlen (s2).den) cyb2) ∧ w'.cell? ⟨wa2.heap.size, 0, none⟩ = some (.bool (decide ((s3).num < 0))) ∧ w'.cell? ⟨wa2.heap.size, 1, none⟩ = some (.slice rzb (nlen (s3).num.natAbs) czb) ∧ w'.cell? ⟨wa2.heap.size, 2, none⟩ = some (.slice rzb2 (nlen (s3).den) czb2))
    (first | (go_keep; done) | ((try dsimp only); (repeat' apply And.intro) <;> (first | (go_keep; done) | (exact cell_keep_alloc_drew (by first | omega | (simp; omega)) (by first | assumption | go_simp)) | (exact cell_keep_alloc (by first | omega | (simp; omega)) (by first | assumption | go_simp)) | (rw [cell_set2 _ _ _ _ _ _ _ _ (by omega)]; assumption) | (rw [cell_set3 _ _ _ _ _ _ _ _ _ _ (by omega)]; assumption))))
    (first
      | (go_at_call 11; refine (radd_any (N := N) _ _ _ _ _ _ _ _ _ _ _ _ _ _ (L * 380 + 40) (L * 380 + 40) s1 s2 _ (by exact hN) (by exact Rt.of_norm Hxb1.out Hxb2.out (L * 380 + 40) HZs1.out) (by exact Rt.of_norm Hyb1.out Hyb2.out (L * 380 + 40) HZs2.out) (by omega) (by omega) s3 HSs3.out).mono ?_; rintro e wab ⟨rsb, csb, rsb2, csb2, rfl, hn, hn', hb⟩; replace hb : Below Wb2.heap.size Wb2 wab := (by first | exact hb | exact bel_of_drew hb); have hN_wab : N ≤ wab.heap.size := Nat.le_trans hN hb.size; have hs_wab : Wb2.heap.size ≤ wab.heap.size := hb.size; have hs0_wab : w.heap.size ≤ wab.heap.size := Nat.le_trans hs0 hb.size; have hl_X_wab : wa0.heap.size < wab.heap.size := Nat.lt_of_lt_of_le hl_X hb.size; have k_X_0_wab : wab.cell? ⟨wa0.heap.size, 0, none⟩ = some (.bool (decide ((s1).num < 0))) := (hb.cell (p := ⟨wa0.heap.size, 0, none⟩) hl_X).trans k_X_0; have k_X_1_wab : wab.cell? ⟨wa0.heap.size, 1, none⟩ = some (.slice rxb (nlen (s1).num.natAbs) cxb) := (hb.cell (p := ⟨wa0.heap.size, 1, none⟩) hl_X).trans k_X_1; have k_X_2_wab : wab.cell? ⟨wa0.heap.size, 2, none⟩ = some (.slice rxb2 (nlen (s1).den) cxb2) := (hb.cell (p := ⟨wa0.heap.size, 2, none⟩) hl_X).trans k_X_2; have f_X_wab : ∀ o, wab.frozen? ⟨wa0.heap.size, o, none⟩ = false := fun o => (hb.frozen (p := ⟨wa0.heap.size, o, none⟩) hl_X).trans (f_X o); have HX_X_wab := Lib.hid (HX_X.out.below hb); have hl_Y_wab : wa1.heap.size < wab.heap.size := Nat.lt_of_lt_of_le hl_Y hb.size; have k_Y_0_wab : wab.cell? ⟨wa1.heap.size, 0, none⟩ = some (.bool (decide ((s2).num < 0))) := (hb.cell (p := ⟨wa1.heap.size, 0, none⟩) hl_Y).trans k_Y_0; have k_Y_1_wab : wab.cell? ⟨wa1.heap.size, 1, none⟩ = some (.slice ryb (nlen (s2).num.natAbs) cyb) := (hb.cell (p := ⟨wa1.heap.size, 1, none⟩) hl_Y).trans k_Y_1; have k_Y_2_wab : wab.cell? ⟨wa1.heap.size, 2, none⟩ = some (.slice ryb2 (nlen (s2).den) cyb2) := (hb.cell (p := ⟨wa1.heap.size, 2, none⟩) hl_Y).trans k_Y_2; have f_Y_wab : ∀ o, wab.frozen? ⟨wa1.heap.size, o, none⟩ = false := fun o => (hb.frozen (p := ⟨wa1.heap.size, o, none⟩) hl_Y).trans (f_Y o); have HX_Y_wab := Lib.hid (HX_Y.out.below hb); have hl_Z_wab : wa2.heap.size < wab.heap.size := Nat.lt_of_lt_of_le hl_Z hb.size; have k_Z_0_wab : wab.cell? ⟨wa2.heap.size, 0, none⟩ = some (.bool (decide ((s3).num < 0))) := (hb.cell (p := ⟨wa2.heap.size, 0, none⟩) hl_Z).trans k_Z_0; have k_Z_1_wab : wab.cell? ⟨wa2.heap.size, 1, none⟩ = some (.slice rzb (nlen (s3).num.natAbs) czb) := (hb.cell (p := ⟨wa2.heap.size, 1, none⟩) hl_Z).trans k_Z_1; have k_Z_2_wab : wab.cell? ⟨wa2.heap.size, 2, none⟩ = some (.slice rzb2 (nlen (s3).den) czb2) := (hb.cell (p := ⟨wa2.heap.size, 2, none⟩) hl_Z).trans k_Z_2; have f_Z_wab : ∀ o, wab.frozen? ⟨wa2.heap.size, o, none⟩ = false := fun o => (hb.frozen (p := ⟨wa2.heap.size, o, none⟩) hl_Z).trans (f_Z o); have HX_Z_wab := Lib.hid (HX_Z.out.below hb); have Hxb1_wab := Lib.hid (Hxb1.out.below hb); have Hxb2_wab := Lib.hid (Hxb2.out.below hb); have Hyb1_wab := Lib.hid (Hyb1.out.below hb); have Hyb2_wab := Lib.hid (Hyb2.out.below hb); have Hzb1_wab := Lib.hid (Hzb1.out.below hb); have Hzb2_wab := Lib.hid (Hzb2.out.below hb); have HB_wab := Lib.hid (HB.out.trans (hb.mono hs0)); clear hb; clear hl_X f_X HX_X k_X_0 k_X_1 k_X_2 hl_Y f_Y HX_Y k_Y_0 k_Y_1 k_Y_2 hl_Z f_Z HX_Z k_Z_0 k_Z_1 k_Z_2 Hxb1 Hxb2 Hyb1 Hyb2 Hzb1 Hzb2 HB hN hs0; have hN := hN_wab; have HB := HB_wab; have hs0 := hs0_wab; have hl_X := hl_X_wab; have f_X := f_X_wab; have HX_X := HX_X_wab; have k_X_0 := k_X_0_wab; have k_X_1 := k_X_1_wab; have k_X_2 := k_X_2_wab; have hl_Y := hl_Y_wab; have f_Y := f_Y_wab; have HX_Y := HX_Y_wab; have k_Y_0 := k_Y_0_wab; have k_Y_1 := k_Y_1_wab; have k_Y_2 := k_Y_2_wab; have hl_Z := hl_Z_wab; have f_Z := f_Z_wab; have HX_Z := HX_Z_wab; have k_Z_0 := k_Z_0_wab; have k_Z_1 := k_Z_1_wab; have k_Z_2 := k_Z_2_wab; have Hxb1 := Hxb1_wab; have Hxb2 := Hxb2_wab; have Hyb1 := Hyb1_wab; have Hyb2 := Hyb2_wab; have Hzb1 := Hzb1_wab; have Hzb2 := Hzb2_wab; clear hN_wab HB_wab hs0_wab hl_X_wab f_X_wab HX_X_wab k_X_0_wab k_X_1_wab k_X_2_wab hl_Y_wab f_Y_wab HX_Y_wab k_Y_0_wab k_Y_1_wab k_Y_2_wab hl_Z_wab f_Z_wab HX_Z_wab k_Z_0_wab k_Z_1_wab k_Z_2_wab Hxb1_wab Hxb2_wab Hyb1_wab Hyb2_wab Hzb1_wab Hzb2_wab; have HSb1 := Lib.hid hn; clear hn; have HSb2 := Lib.hid hn'; clear hn'; skip)
      | (go_at_call 16; refine (rcmp_0 (N := N) _ _ _ _ _ _ _ _ _ _ _ _ _ _ (L * 380 + 40) (L * 380 + 40) s3 _ (by exact hN) (by exact Rt.of_norm HSb1.out HSb2.out (L * 380 + 40) HZs3.out) (by exact Rt.of_norm Hzb1.out Hzb2.out (L * 380 + 40) HZs3.out) (by omega) (by omega)).mono ?_; rintro e wbb ⟨rfl, hb⟩; replace hb : Below wab.heap.size wab wbb := (by first | exact hb | exact bel_of_drew hb); have hN_wbb : N ≤ wbb.heap.size := Nat.le_trans hN hb.size; have hs_wbb : wab.heap.size ≤ wbb.heap.size := hb.size; have hs0_wbb : w.heap.size ≤ wbb.heap.size := Nat.le_trans hs0 hb.size; have hl_X_wbb : wa0.heap.size < wbb.heap.size := Nat.lt_of_lt_of_le hl_X hb.size; have k_X_0_wbb : wbb.cell? ⟨wa0.heap.size, 0, none⟩ = some (.bool (decide ((s1).num < 0))) := (hb.cell (p := ⟨wa0.heap.size, 0, none⟩) hl_X).trans k_X_0; have k_X_1_wbb : wbb.cell? ⟨wa0.heap.size, 1, none⟩ = some (.slice rxb (nlen (s1).num.natAbs) cxb) := (hb.cell (p := ⟨wa0.heap.size, 1, none⟩) hl_X).trans k_X_1; have k_X_2_wbb : wbb.cell? ⟨wa0.heap.size, 2, none⟩ = some (.slice rxb2 (nlen (s1).den) cxb2) := (hb.cell (p := ⟨wa0.heap.size, 2, none⟩) hl_X).trans k_X_2; have f_X_wbb : ∀ o, wbb.frozen? ⟨wa0.heap.size, o, none⟩ = false := fun o => (hb.frozen (p := ⟨wa0.heap.size, o, none⟩) hl_X).trans (f_X o); have HX_X_wbb := Lib.hid (HX_X.out.below hb); have hl_Y_wbb : wa1.heap.size < wbb.heap.size := Nat.lt_of_lt_of_le hl_Y hb.size; have k_Y_0_wbb : wbb.cell? ⟨wa1.heap.size, 0, none⟩ = some (.bool (decide ((s2).num < 0))) := (hb.cell (p := ⟨wa1.heap.size, 0, none⟩) hl_Y).trans k_Y_0; have k_Y_1_wbb : wbb.cell? ⟨wa1.heap.size, 1, none⟩ = some (.slice ryb (nlen (s2).num.natAbs) cyb) := (hb.cell (p := ⟨wa1.heap.size, 1, none⟩) hl_Y).trans k_Y_1; have k_Y_2_wbb : wbb.cell? ⟨wa1.heap.size, 2, none⟩ = some (.slice ryb2 (nlen (s2).den) cyb2) := (hb.cell (p := ⟨wa1.heap.size, 2, none⟩) hl_Y).trans k_Y_2; have f_Y_wbb : ∀ o, wbb.frozen? ⟨wa1.heap.size, o, none⟩ = false := fun o => (hb.frozen (p := ⟨wa1.heap.size, o, none⟩) hl_Y).trans (f_Y o); have HX_Y_wbb := Lib.hid (HX_Y.out.below hb); have hl_Z_wbb : wa2.heap.size < wbb.heap.size := Nat.lt_of_lt_of_le hl_Z hb.size; have k_Z_0_wbb : wbb.cell? ⟨wa2.heap.size, 0, none⟩ = some (.bool (decide ((s3).num < 0))) := (hb.cell (p := ⟨wa2.heap.size, 0, none⟩) hl_Z).trans k_Z_0; have k_Z_1_wbb : wbb.cell? ⟨wa2.heap.size, 1, none⟩ = some (.slice rzb (nlen (s3).num.natAbs) czb) := (hb.cell (p := ⟨wa2.heap.size, 1, none⟩) hl_Z).trans k_Z_1; have k_Z_2_wbb : wbb.cell? ⟨wa2.heap.size, 2, none⟩ = some (.slice rzb2 (nlen (s3).den) czb2) := (hb.cell (p := ⟨wa2.heap.size, 2, none⟩) hl_Z).trans k_Z_2; have f_Z_wbb : ∀ o, wbb.frozen? ⟨wa2.heap.size, o, none⟩ = false := fun o => (hb.frozen (p := ⟨wa2.heap.size, o, none⟩) hl_Z).trans (f_Z o); have HX_Z_wbb := Lib.hid (HX_Z.out.below hb); have Hxb1_wbb := Lib.hid (Hxb1.out.below hb); have Hxb2_wbb := Lib.hid (Hxb2.out.below hb); have Hyb1_wbb := Lib.hid (Hyb1.out.below hb); have Hyb2_wbb := Lib.hid (Hyb2.out.below hb); have Hzb1_wbb := Lib.hid (Hzb1.out.below hb); have Hzb2_wbb := Lib.hid (Hzb2.out.below hb); have HSb1_wbb := Lib.hid (HSb1.out.below hb); have HSb2_wbb := Lib.hid (HSb2.out.below hb); have HB_wbb := Lib.hid (HB.out.trans (hb.mono hs0)); clear hb; clear hl_X f_X HX_X k_X_0 k_X_1 k_X_2 hl_Y f_Y HX_Y k_Y_0 k_Y_1 k_Y_2 hl_Z f_Z HX_Z k_Z_0 k_Z_1 k_Z_2 Hxb1 Hxb2 Hyb1 Hyb2 Hzb1 Hzb2 HSb1 HSb2 HB hN hs0; have hN := hN_wbb; have HB := HB_wbb; have hs0 := hs0_wbb; have hl_X := hl_X_wbb; have f_X := f_X_wbb; have HX_X := HX_X_wbb; have k_X_0 := k_X_0_wbb; have k_X_1 := k_X_1_wbb; have k_X_2 := k_X_2_wbb; have hl_Y := hl_Y_wbb; have f_Y := f_Y_wbb; have HX_Y := HX_Y_wbb; have k_Y_0 := k_Y_0_wbb; have k_Y_1 := k_Y_1_wbb; have k_Y_2 := k_Y_2_wbb; have hl_Z := hl_Z_wbb; have f_Z := f_Z_wbb; have HX_Z := HX_Z_wbb; have k_Z_0 := k_Z_0_wbb; have k_Z_1 := k_Z_1_wbb; have k_Z_2 := k_Z_2_wbb; have Hxb1 := Hxb1_wbb; have Hxb2 := Hxb2_wbb; have Hyb1 := Hyb1_wbb; have Hyb2 := Hyb2_wbb; have Hzb1 := Hzb1_wbb; have Hzb2 := Hzb2_wbb; have HSb1 := HSb1_wbb; have HSb2 := HSb2_wbb; clear hN_wbb HB_wbb hs0_wbb hl_X_wbb f_X_wbb HX_X_wbb k_X_0_wbb k_X_1_wbb k_X_2_wbb hl_Y_wbb f_Y_wbb HX_Y_wbb k_Y_0_wbb k_Y_1_wbb k_Y_2_wbb hl_Z_wbb f_Z_wbb HX_Z_wbb k_Z_0_wbb k_Z_1_wbb k_Z_2_wbb Hxb1_wbb Hxb2_wbb Hyb1_wbb Hyb2_wbb Hzb1_wbb Hzb2_wbb HSb1_wbb HSb2_wbb; skip))
  go_wp2_with fail
  go_ret
  exact ⟨rfl, HB.out⟩

end Go.Proofs.YtbjgnpgachdlaaaDoor
