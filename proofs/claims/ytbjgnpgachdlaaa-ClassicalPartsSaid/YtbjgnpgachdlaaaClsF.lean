/- Contracts of classical.Alpha and Error. -/
import Derived.Test.YtbjgnpgachdlaaaClsE
import Derived.Test.YtbjgnpgachdlaaaKp
namespace Go.Proofs.Ytbjgnpgachdlaaa
open Go.RowKit

set_option maxHeartbeats 1000000 in
theorem alpha_any {N : Nat} (a : Option Addr) (n cap : Nat) (ra : Nat → Option Addr) (rn rc : Nat → Nat) (z : Nat → Nat → Int) (w : World) (hN : N ≤ w.heap.size) (h : Rw w a n cap ra rn rc z) (p1 p2 : Rat) (c : Int) (hrel : ∀ w', N ≤ w'.heap.size → Rw w' a n cap ra rn rc z → Calls Try.prog 14 #[.slice a n cap] w' (RelPost N w' p1 p2 c)) :
    Calls Try.prog 5 #[.slice a n cap] w (RatPostC N w p2 c) := by
  have HREL := Lib.hid hrel
  have HR := Lib.hid (h.alloc (.cells #[.bool false, .slice none 0 0, .slice none 0 0] 30))
  have HBX := Lib.hid (Bn.new w #[.bool false, .slice none 0 0, .slice none 0 0] 30 _ rfl (by decide))
  clear h hrel
  go_enter Try.func5, Try.ntmps5
  go_wp2_with fail
  refine (HREL.out _ (by simp; omega) HR.out).mono ?_
  rintro e wa ⟨rx, cx, rx2, cx2, ry, cy, ry2, cy2, rfl, hn, hn', hm, hm', hb⟩
  obtain ⟨hcwa, hfwa⟩ := bcell hb
  have hzwa0 : w.heap.size < wa.heap.size := by have := hb.size; (try simp at this); omega
  have HBwa := Lib.hid hb
  have HNwa := Lib.hid hn
  have HN'wa := Lib.hid hn'
  clear hb hn hn'
  have HMwa := Lib.hid hm
  have HM'wa := Lib.hid hm'
  have HX := Lib.hid (HBX.out.below HBwa.out)
  have HB := Lib.hid (show Below w.heap.size w wa from (bel1 w _).trans (HBwa.out.mono (by simp)))
  clear hm hm' HBX
  go_wp2_with fail
  refine bodyPost_ret (v := .tuple #[.agg #[.bool (decide ((p2).num < 0)), .slice ry (nlen (p2).num.natAbs) cy, .slice ry2 (nlen (p2).den) cy2], .int .i64 c]) (by simp [results, Try.results5, go_sem, hcwa, hzwa0]) rfl ⟨_, _, _, _, rfl, HMwa.out.keep ?_, HM'wa.out.keep ?_, ?_⟩
  · (repeat' (first | with_reducible exact Kp.refl _ _ | with_reducible exact HX.out | with_reducible apply Kp.alloc | with_reducible apply Kp.drew | (with_reducible refine Kp.put ?_ ?_ ?_ _; rotate_left; (focus (first | omega | (simp; done) | (simp; omega))); rotate_left) | (with_reducible refine Bn.new _ _ _ _ ?_ ?_; (focus (first | omega | (simp; done) | (simp; omega))); decide) | with_reducible apply Bn.alloc | with_reducible apply Bn.drew | with_reducible apply Bn.set))
  · (repeat' (first | with_reducible exact Kp.refl _ _ | with_reducible exact HX.out | with_reducible apply Kp.alloc | with_reducible apply Kp.drew | (with_reducible refine Kp.put ?_ ?_ ?_ _; rotate_left; (focus (first | omega | (simp; done) | (simp; omega))); rotate_left) | (with_reducible refine Bn.new _ _ _ _ ?_ ?_; (focus (first | omega | (simp; done) | (simp; omega))); decide) | with_reducible apply Bn.alloc | with_reducible apply Bn.drew | with_reducible apply Bn.set))
  · (repeat' (first | with_reducible exact Below.refl _ _ | with_reducible exact HB.out | (with_reducible refine Below.alloc ?_ ?_ _; rotate_left; (focus (first | omega | (simp; done) | (simp; omega)))) | with_reducible apply Below.drew | (with_reducible refine Below.setCell ?_ ?_ _; rotate_left; (focus (first | omega | (simp; done) | (simp; omega))))))

set_option maxHeartbeats 1000000 in
theorem error_no {N : Nat} (a : Option Addr) (n cap : Nat) (ra : Nat → Option Addr) (rn rc : Nat → Nat) (z : Nat → Nat → Int) (w : World) (hN : N ≤ w.heap.size) (h : Rw w a n cap ra rn rc z) (p1 p2 : Rat) (c : Int) (hrel : ∀ w', N ≤ w'.heap.size → Rw w' a n cap ra rn rc z → Calls Try.prog 14 #[.slice a n cap] w' (RelPost N w' p1 p2 c)) (hc : c ≠ 0) (p : Rat) (hp : (0 : Rat) = p) :
    Calls Try.prog 6 #[.slice a n cap] w (RatPostC N w p c) := by
  have HREL := Lib.hid hrel
  have HR := Lib.hid h
  have HP := Lib.hid hp
  have hcb : (c != 0) = true := by simpa using hc
  clear hp hc h hrel
  have hN0 := hN
  have HB := Lib.hid (Below.refl w.heap.size w)
  go_enter Try.func6, Try.ntmps6
  go_wp2_with fail
  refine calls_name fun W0 hW => ?_
  have hN_W0 : N ≤ W0.heap.size := by rw [← hW]; (first | omega | (simp; done) | (simp; omega))
  have hs_W0 : w.heap.size ≤ W0.heap.size := by rw [← hW]; (first | omega | (simp; done) | (simp; omega))
  have hs0_W0 : w.heap.size ≤ W0.heap.size := by rw [← hW]; (first | omega | (simp; done) | (simp; omega))
  have hl_R_W0 : w.heap.size < W0.heap.size := by rw [← hW]; (first | omega | (simp; done) | (simp; omega))
  have k_R_0_W0 : W0.cell? ⟨w.heap.size, 0, none⟩ = some (.bool false) := by rw [← hW]; (first | (go_simp; done) | (simp; done) | (simp [go_sem]; done) | (simp [go_sem]; done))
  have k_R_1_W0 : W0.cell? ⟨w.heap.size, 1, none⟩ = some (.slice none 0 0) := by rw [← hW]; (first | (go_simp; done) | (simp; done) | (simp [go_sem]; done) | (simp [go_sem]; done))
  have k_R_2_W0 : W0.cell? ⟨w.heap.size, 2, none⟩ = some (.slice none 0 0) := by rw [← hW]; (first | (go_simp; done) | (simp; done) | (simp [go_sem]; done) | (simp [go_sem]; done))
  have f_R_W0 : ∀ o, W0.frozen? ⟨w.heap.size, o, none⟩ = false := by intro o; rw [← hW]; (first | (go_simp; done) | (simp; done) | (simp [go_sem]; done) | (simp [go_sem]; done))
  have HX_R_W0 := Lib.hid (show Bn W0 (w.heap.size) by rw [← hW]; (repeat' (first | with_reducible exact Kp.refl _ _ | with_reducible apply Kp.alloc | with_reducible apply Kp.drew | (with_reducible refine Kp.put ?_ ?_ ?_ _; rotate_left; (focus (first | omega | (simp; done) | (simp; omega))); rotate_left) | (with_reducible refine Bn.new _ _ _ _ ?_ ?_; (focus (first | omega | (simp; done) | (simp; omega))); decide) | with_reducible apply Bn.alloc | with_reducible apply Bn.drew | with_reducible apply Bn.set)))
  have HB_W0 := Lib.hid (show Below w.heap.size w W0 by rw [← hW]; (repeat' (first | with_reducible exact Below.refl _ _ | with_reducible exact HB.out | (with_reducible refine Below.alloc ?_ ?_ _; rotate_left; (focus (first | omega | (simp; done) | (simp; omega)))) | with_reducible apply Below.drew | (with_reducible refine Below.setCell ?_ ?_ _; rotate_left; (focus (first | omega | (simp; done) | (simp; omega)))))))
  clear hW
  clear HB hN
  have hN := hN_W0
  have HB := HB_W0
  have hs0 := hs0_W0
  have hl_R := hl_R_W0
  have f_R := f_R_W0
  have HX_R := HX_R_W0
  have k_R_0 := k_R_0_W0
  have k_R_1 := k_R_1_W0
  have k_R_2 := k_R_2_W0
  clear hN_W0 HB_W0 hs0_W0 hl_R_W0 f_R_W0 HX_R_W0 k_R_0_W0 k_R_1_W0 k_R_2_W0
  refine (HREL.out _ hN (HR.out.below HB.out)).mono ?_
  rintro e wa ⟨rx, cx, rx2, cx2, ry, cy, ry2, cy2, rfl, hn, hn', hm, hm', hb⟩
  have hN_wa : N ≤ wa.heap.size := Nat.le_trans hN hb.size
  have hs_wa : W0.heap.size ≤ wa.heap.size := hb.size
  have hs0_wa : w.heap.size ≤ wa.heap.size := Nat.le_trans hs0 hb.size
  have hl_R_wa : w.heap.size < wa.heap.size := Nat.lt_of_lt_of_le hl_R hb.size
  have k_R_0_wa : wa.cell? ⟨w.heap.size, 0, none⟩ = some (.bool false) := (hb.cell (p := ⟨w.heap.size, 0, none⟩) hl_R).trans k_R_0
  have k_R_1_wa : wa.cell? ⟨w.heap.size, 1, none⟩ = some (.slice none 0 0) := (hb.cell (p := ⟨w.heap.size, 1, none⟩) hl_R).trans k_R_1
  have k_R_2_wa : wa.cell? ⟨w.heap.size, 2, none⟩ = some (.slice none 0 0) := (hb.cell (p := ⟨w.heap.size, 2, none⟩) hl_R).trans k_R_2
  have f_R_wa : ∀ o, wa.frozen? ⟨w.heap.size, o, none⟩ = false := fun o => (hb.frozen (p := ⟨w.heap.size, o, none⟩) hl_R).trans (f_R o)
  have HX_R_wa := Lib.hid (HX_R.out.below hb)
  have HB_wa := Lib.hid (HB.out.trans (hb.mono hs0))
  clear hb
  clear hl_R f_R HX_R k_R_0 k_R_1 k_R_2 HB hN hs0
  have hN := hN_wa
  have HB := HB_wa
  have hs0 := hs0_wa
  have hl_R := hl_R_wa
  have f_R := f_R_wa
  have HX_R := HX_R_wa
  have k_R_0 := k_R_0_wa
  have k_R_1 := k_R_1_wa
  have k_R_2 := k_R_2_wa
  clear hN_wa HB_wa hs0_wa hl_R_wa f_R_wa HX_R_wa k_R_0_wa k_R_1_wa k_R_2_wa
  have HP1 := Lib.hid hn
  clear hn
  have HQ1 := Lib.hid hn'
  clear hn'
  have HP2 := Lib.hid hm
  clear hm
  have HQ2 := Lib.hid hm'
  clear hm'
  go_wp2_with fail
  refine calls_name fun W1 hW => ?_
  have hN_W1 : N ≤ W1.heap.size := by rw [← hW]; (first | omega | (simp; done) | (simp; omega))
  have hs_W1 : wa.heap.size ≤ W1.heap.size := by rw [← hW]; (first | omega | (simp; done) | (simp; omega))
  have hs0_W1 : w.heap.size ≤ W1.heap.size := by rw [← hW]; (first | omega | (simp; done) | (simp; omega))
  have hl_R_W1 : w.heap.size < W1.heap.size := by rw [← hW]; (first | omega | (simp; done) | (simp; omega))
  have k_R_0_W1 : W1.cell? ⟨w.heap.size, 0, none⟩ = some (.bool false) := by rw [← hW]; (first | with_reducible exact k_R_0 | (simp [go_sem, k_R_0]; done) | (simp [go_sem, k_R_0, hl_R]; done) | (go_simp; done) | (simp [go_sem, k_R_0, k_R_1, k_R_2, f_R, hl_R]; done))
  have k_R_1_W1 : W1.cell? ⟨w.heap.size, 1, none⟩ = some (.slice none 0 0) := by rw [← hW]; (first | with_reducible exact k_R_1 | (simp [go_sem, k_R_1]; done) | (simp [go_sem, k_R_1, hl_R]; done) | (go_simp; done) | (simp [go_sem, k_R_0, k_R_1, k_R_2, f_R, hl_R]; done))
  have k_R_2_W1 : W1.cell? ⟨w.heap.size, 2, none⟩ = some (.slice none 0 0) := by rw [← hW]; (first | with_reducible exact k_R_2 | (simp [go_sem, k_R_2]; done) | (simp [go_sem, k_R_2, hl_R]; done) | (go_simp; done) | (simp [go_sem, k_R_0, k_R_1, k_R_2, f_R, hl_R]; done))
  have f_R_W1 : ∀ o, W1.frozen? ⟨w.heap.size, o, none⟩ = false := by intro o; rw [← hW]; (first | with_reducible exact f_R o | (simp [go_sem, f_R]; done) | (simp [go_sem, f_R, hl_R]; done) | (go_simp; done) | (simp [go_sem, k_R_0, k_R_1, k_R_2, f_R, hl_R]; done))
  have HX_R_W1 := Lib.hid (show Bn W1 (w.heap.size) by rw [← hW]; (repeat' (first | with_reducible exact Kp.refl _ _ | with_reducible exact HX_R.out | with_reducible apply Kp.alloc | with_reducible apply Kp.drew | (with_reducible refine Kp.put ?_ ?_ ?_ _; rotate_left; (focus (first | omega | (simp; done) | (simp; omega))); rotate_left) | (with_reducible refine Bn.new _ _ _ _ ?_ ?_; (focus (first | omega | (simp; done) | (simp; omega))); decide) | with_reducible apply Bn.alloc | with_reducible apply Bn.drew | with_reducible apply Bn.set)))
  have HK_W1 := Lib.hid (show Kp N wa W1 by rw [← hW]; (repeat' (first | with_reducible exact Kp.refl _ _ | with_reducible exact HX_R.out | with_reducible apply Kp.alloc | with_reducible apply Kp.drew | (with_reducible refine Kp.put ?_ ?_ ?_ _; rotate_left; (focus (first | omega | (simp; done) | (simp; omega))); rotate_left) | (with_reducible refine Bn.new _ _ _ _ ?_ ?_; (focus (first | omega | (simp; done) | (simp; omega))); decide) | with_reducible apply Bn.alloc | with_reducible apply Bn.drew | with_reducible apply Bn.set)))
  have HP1_W1 := Lib.hid (HP1.out.keep HK_W1.out)
  have HQ1_W1 := Lib.hid (HQ1.out.keep HK_W1.out)
  have HP2_W1 := Lib.hid (HP2.out.keep HK_W1.out)
  have HQ2_W1 := Lib.hid (HQ2.out.keep HK_W1.out)
  have HB_W1 := Lib.hid (show Below w.heap.size w W1 by rw [← hW]; (repeat' (first | with_reducible exact Below.refl _ _ | with_reducible exact HB.out | (with_reducible refine Below.alloc ?_ ?_ _; rotate_left; (focus (first | omega | (simp; done) | (simp; omega)))) | with_reducible apply Below.drew | (with_reducible refine Below.setCell ?_ ?_ _; rotate_left; (focus (first | omega | (simp; done) | (simp; omega)))))))
  clear hW HK_W1
  clear hl_R f_R HX_R k_R_0 k_R_1 k_R_2 HP1 HQ1 HP2 HQ2 HB hN hs0
  have hN := hN_W1
  have HB := HB_W1
  have hs0 := hs0_W1
  have hl_R := hl_R_W1
  have f_R := f_R_W1
  have HX_R := HX_R_W1
  have k_R_0 := k_R_0_W1
  have k_R_1 := k_R_1_W1
  have k_R_2 := k_R_2_W1
  have HP1 := HP1_W1
  have HQ1 := HQ1_W1
  have HP2 := HP2_W1
  have HQ2 := HQ2_W1
  clear hN_W1 HB_W1 hs0_W1 hl_R_W1 f_R_W1 HX_R_W1 k_R_0_W1 k_R_1_W1 k_R_2_W1 HP1_W1 HQ1_W1 HP2_W1 HQ2_W1
  refine (czero_any (N := N) _ hN p HP.out).mono ?_
  rintro e wb ⟨ru, cu, ru2, cu2, rfl, hn, hn', hb⟩
  have hN_wb : N ≤ wb.heap.size := Nat.le_trans hN hb.size
  have hs_wb : W1.heap.size ≤ wb.heap.size := hb.size
  have hs0_wb : w.heap.size ≤ wb.heap.size := Nat.le_trans hs0 hb.size
  have hl_R_wb : w.heap.size < wb.heap.size := Nat.lt_of_lt_of_le hl_R hb.size
  have k_R_0_wb : wb.cell? ⟨w.heap.size, 0, none⟩ = some (.bool false) := (hb.cell (p := ⟨w.heap.size, 0, none⟩) hl_R).trans k_R_0
  have k_R_1_wb : wb.cell? ⟨w.heap.size, 1, none⟩ = some (.slice none 0 0) := (hb.cell (p := ⟨w.heap.size, 1, none⟩) hl_R).trans k_R_1
  have k_R_2_wb : wb.cell? ⟨w.heap.size, 2, none⟩ = some (.slice none 0 0) := (hb.cell (p := ⟨w.heap.size, 2, none⟩) hl_R).trans k_R_2
  have f_R_wb : ∀ o, wb.frozen? ⟨w.heap.size, o, none⟩ = false := fun o => (hb.frozen (p := ⟨w.heap.size, o, none⟩) hl_R).trans (f_R o)
  have HX_R_wb := Lib.hid (HX_R.out.below hb)
  have HP1_wb := Lib.hid (HP1.out.below hb)
  have HQ1_wb := Lib.hid (HQ1.out.below hb)
  have HP2_wb := Lib.hid (HP2.out.below hb)
  have HQ2_wb := Lib.hid (HQ2.out.below hb)
  have HB_wb := Lib.hid (HB.out.trans (hb.mono hs0))
  clear hb
  clear hl_R f_R HX_R k_R_0 k_R_1 k_R_2 HP1 HQ1 HP2 HQ2 HB hN hs0
  have hN := hN_wb
  have HB := HB_wb
  have hs0 := hs0_wb
  have hl_R := hl_R_wb
  have f_R := f_R_wb
  have HX_R := HX_R_wb
  have k_R_0 := k_R_0_wb
  have k_R_1 := k_R_1_wb
  have k_R_2 := k_R_2_wb
  have HP1 := HP1_wb
  have HQ1 := HQ1_wb
  have HP2 := HP2_wb
  have HQ2 := HQ2_wb
  clear hN_wb HB_wb hs0_wb hl_R_wb f_R_wb HX_R_wb k_R_0_wb k_R_1_wb k_R_2_wb HP1_wb HQ1_wb HP2_wb HQ2_wb
  have HP3 := Lib.hid hn
  clear hn
  have HQ3 := Lib.hid hn'
  clear hn'
  go_wp2_with fail
  refine bodyPost_ret (v := .tuple #[.agg #[.bool (decide ((p).num < 0)), .slice ru (nlen (p).num.natAbs) cu, .slice ru2 (nlen (p).den) cu2], .int .i64 c]) (by simp [results, Try.results6, go_sem, k_R_0, k_R_1, k_R_2]) rfl ⟨_, _, _, _, rfl, HP3.out.keep ?_, HQ3.out.keep ?_, ?_⟩
  all_goals first | ((repeat' (first | with_reducible exact Kp.refl _ _ | with_reducible exact HX_R.out | with_reducible apply Kp.alloc | with_reducible apply Kp.drew | (with_reducible refine Kp.put ?_ ?_ ?_ _; rotate_left; (focus (first | omega | (simp; done) | (simp; omega))); rotate_left) | (with_reducible refine Bn.new _ _ _ _ ?_ ?_; (focus (first | omega | (simp; done) | (simp; omega))); decide) | with_reducible apply Bn.alloc | with_reducible apply Bn.drew | with_reducible apply Bn.set)); done) | ((repeat' (first | with_reducible exact Below.refl _ _ | with_reducible exact HB.out | (with_reducible refine Below.alloc ?_ ?_ _; rotate_left; (focus (first | omega | (simp; done) | (simp; omega)))) | with_reducible apply Below.drew | (with_reducible refine Below.setCell ?_ ?_ _; rotate_left; (focus (first | omega | (simp; done) | (simp; omega)))))); done)

set_option maxHeartbeats 4000000 in
theorem error_ok {N : Nat} (a : Option Addr) (n cap : Nat) (ra : Nat → Option Addr) (rn rc : Nat → Nat) (z : Nat → Nat → Int) (w : World) (hN : N ≤ w.heap.size) (h : Rw w a n cap ra rn rc z) (p1 p2 : Rat) (hrel : ∀ w', N ≤ w'.heap.size → Rw w' a n cap ra rn rc z → Calls Try.prog 14 #[.slice a n cap] w' (RelPost N w' p1 p2 0)) (s1 : rsz p1 ≤ 68719476735) (s2 : rsz p2 ≤ 34359738368) (p : Rat) (hp : p1 * (1 - p2) = p) :
    Calls Try.prog 6 #[.slice a n cap] w (RatPostC N w p 0) := by
  obtain ⟨po, hpo⟩ : ∃ po : Rat, ((1 : Int) : Rat) / ((1 : Int) : Rat) = po := ⟨_, rfl⟩
  obtain ⟨pd, hpd⟩ : ∃ pd : Rat, po - p2 = pd := ⟨_, rfl⟩
  have hpo1 : po = 1 := by rw [← hpo]; (first | grind | decide | (simp; done))
  have HREL := Lib.hid hrel
  have HR := Lib.hid h
  have HPo := Lib.hid hpo
  have HPd := Lib.hid hpd
  have HP := Lib.hid (show p1 * pd = p by rw [← hpd, hpo1]; exact hp)
  have HSo := Lib.hid (show rsz po ≤ 2 from rsz_div 1 1 po hpo (by decide) (by decide))
  have HS1 := Lib.hid (show rsz p1 ≤ 68719476736 by omega)
  have HS2 := Lib.hid (show rsz p2 ≤ 68719476736 by omega)
  have HSd := Lib.hid (show rsz pd ≤ 68719476736 by rw [← hpd]; have := rsz_sub po p2; have := HSo.out; omega)
  clear hp hpo hpd hpo1 h hrel s1 s2
  have hN0 := hN
  have HB := Lib.hid (Below.refl w.heap.size w)
  go_enter Try.func6, Try.ntmps6
  go_wp2_with fail
  refine calls_name fun W0 hW => ?_
  have hN_W0 : N ≤ W0.heap.size := by rw [← hW]; (first | omega | (simp; done) | (simp; omega))
  have hs_W0 : w.heap.size ≤ W0.heap.size := by rw [← hW]; (first | omega | (simp; done) | (simp; omega))
  have hs0_W0 : w.heap.size ≤ W0.heap.size := by rw [← hW]; (first | omega | (simp; done) | (simp; omega))
  have hl_R_W0 : w.heap.size < W0.heap.size := by rw [← hW]; (first | omega | (simp; done) | (simp; omega))
  have k_R_0_W0 : W0.cell? ⟨w.heap.size, 0, none⟩ = some (.bool false) := by rw [← hW]; (first | (go_simp; done) | (simp; done) | (simp [go_sem]; done) | (simp [go_sem]; done))
  have k_R_1_W0 : W0.cell? ⟨w.heap.size, 1, none⟩ = some (.slice none 0 0) := by rw [← hW]; (first | (go_simp; done) | (simp; done) | (simp [go_sem]; done) | (simp [go_sem]; done))
  have k_R_2_W0 : W0.cell? ⟨w.heap.size, 2, none⟩ = some (.slice none 0 0) := by rw [← hW]; (first | (go_simp; done) | (simp; done) | (simp [go_sem]; done) | (simp [go_sem]; done))
  have f_R_W0 : ∀ o, W0.frozen? ⟨w.heap.size, o, none⟩ = false := by intro o; rw [← hW]; (first | (go_simp; done) | (simp; done) | (simp [go_sem]; done) | (simp [go_sem]; done))
  have HX_R_W0 := Lib.hid (show Bn W0 (w.heap.size) by rw [← hW]; (repeat' (first | with_reducible exact Kp.refl _ _ | with_reducible apply Kp.alloc | with_reducible apply Kp.drew | (with_reducible refine Kp.put ?_ ?_ ?_ _; rotate_left; (focus (first | omega | (simp; done) | (simp; omega))); rotate_left) | (with_reducible refine Bn.new _ _ _ _ ?_ ?_; (focus (first | omega | (simp; done) | (simp; omega))); decide) | with_reducible apply Bn.alloc | with_reducible apply Bn.drew | with_reducible apply Bn.set)))
  have HB_W0 := Lib.hid (show Below w.heap.size w W0 by rw [← hW]; (repeat' (first | with_reducible exact Below.refl _ _ | with_reducible exact HB.out | (with_reducible refine Below.alloc ?_ ?_ _; rotate_left; (focus (first | omega | (simp; done) | (simp; omega)))) | with_reducible apply Below.drew | (with_reducible refine Below.setCell ?_ ?_ _; rotate_left; (focus (first | omega | (simp; done) | (simp; omega)))))))
  clear hW
  clear HB hN
  have hN := hN_W0
  have HB := HB_W0
  have hs0 := hs0_W0
  have hl_R := hl_R_W0
  have f_R := f_R_W0
  have HX_R := HX_R_W0
  have k_R_0 := k_R_0_W0
  have k_R_1 := k_R_1_W0
  have k_R_2 := k_R_2_W0
  clear hN_W0 HB_W0 hs0_W0 hl_R_W0 f_R_W0 HX_R_W0 k_R_0_W0 k_R_1_W0 k_R_2_W0
  refine (HREL.out _ hN (HR.out.below HB.out)).mono ?_
  rintro e wa ⟨rx, cx, rx2, cx2, ry, cy, ry2, cy2, rfl, hn, hn', hm, hm', hb⟩
  have hN_wa : N ≤ wa.heap.size := Nat.le_trans hN hb.size
  have hs_wa : W0.heap.size ≤ wa.heap.size := hb.size
  have hs0_wa : w.heap.size ≤ wa.heap.size := Nat.le_trans hs0 hb.size
  have hl_R_wa : w.heap.size < wa.heap.size := Nat.lt_of_lt_of_le hl_R hb.size
  have k_R_0_wa : wa.cell? ⟨w.heap.size, 0, none⟩ = some (.bool false) := (hb.cell (p := ⟨w.heap.size, 0, none⟩) hl_R).trans k_R_0
  have k_R_1_wa : wa.cell? ⟨w.heap.size, 1, none⟩ = some (.slice none 0 0) := (hb.cell (p := ⟨w.heap.size, 1, none⟩) hl_R).trans k_R_1
  have k_R_2_wa : wa.cell? ⟨w.heap.size, 2, none⟩ = some (.slice none 0 0) := (hb.cell (p := ⟨w.heap.size, 2, none⟩) hl_R).trans k_R_2
  have f_R_wa : ∀ o, wa.frozen? ⟨w.heap.size, o, none⟩ = false := fun o => (hb.frozen (p := ⟨w.heap.size, o, none⟩) hl_R).trans (f_R o)
  have HX_R_wa := Lib.hid (HX_R.out.below hb)
  have HB_wa := Lib.hid (HB.out.trans (hb.mono hs0))
  clear hb
  clear hl_R f_R HX_R k_R_0 k_R_1 k_R_2 HB hN hs0
  have hN := hN_wa
  have HB := HB_wa
  have hs0 := hs0_wa
  have hl_R := hl_R_wa
  have f_R := f_R_wa
  have HX_R := HX_R_wa
  have k_R_0 := k_R_0_wa
  have k_R_1 := k_R_1_wa
  have k_R_2 := k_R_2_wa
  clear hN_wa HB_wa hs0_wa hl_R_wa f_R_wa HX_R_wa k_R_0_wa k_R_1_wa k_R_2_wa
  have HP1 := Lib.hid hn
  clear hn
  have HQ1 := Lib.hid hn'
  clear hn'
  have HP2 := Lib.hid hm
  clear hm
  have HQ2 := Lib.hid hm'
  clear hm'
  go_wp2_with fail
  refine region_name fun W1 hW => ?_
  have hN_W1 : N ≤ W1.heap.size := by rw [← hW]; (first | omega | (simp; done) | (simp; omega))
  have hs_W1 : wa.heap.size ≤ W1.heap.size := by rw [← hW]; (first | omega | (simp; done) | (simp; omega))
  have hs0_W1 : w.heap.size ≤ W1.heap.size := by rw [← hW]; (first | omega | (simp; done) | (simp; omega))
  have hd_R_X : w.heap.size < wa.heap.size := by omega
  have hd_R_Y : w.heap.size < wa.heap.size + 1 := by omega
  have hl_R_W1 : w.heap.size < W1.heap.size := by rw [← hW]; (first | omega | (simp; done) | (simp; omega))
  have k_R_0_W1 : W1.cell? ⟨w.heap.size, 0, none⟩ = some (.bool false) := by rw [← hW]; (first | with_reducible exact k_R_0 | (simp [go_sem, k_R_0]; done) | (simp [go_sem, k_R_0, hl_R]; done) | (go_simp; done) | (simp [go_sem, k_R_0, k_R_1, k_R_2, f_R, hl_R]; done))
  have k_R_1_W1 : W1.cell? ⟨w.heap.size, 1, none⟩ = some (.slice none 0 0) := by rw [← hW]; (first | with_reducible exact k_R_1 | (simp [go_sem, k_R_1]; done) | (simp [go_sem, k_R_1, hl_R]; done) | (go_simp; done) | (simp [go_sem, k_R_0, k_R_1, k_R_2, f_R, hl_R]; done))
  have k_R_2_W1 : W1.cell? ⟨w.heap.size, 2, none⟩ = some (.slice none 0 0) := by rw [← hW]; (first | with_reducible exact k_R_2 | (simp [go_sem, k_R_2]; done) | (simp [go_sem, k_R_2, hl_R]; done) | (go_simp; done) | (simp [go_sem, k_R_0, k_R_1, k_R_2, f_R, hl_R]; done))
  have f_R_W1 : ∀ o, W1.frozen? ⟨w.heap.size, o, none⟩ = false := by intro o; rw [← hW]; (first | with_reducible exact f_R o | (simp [go_sem, f_R]; done) | (simp [go_sem, f_R, hl_R]; done) | (go_simp; done) | (simp [go_sem, k_R_0, k_R_1, k_R_2, f_R, hl_R]; done))
  have HX_R_W1 := Lib.hid (show Bn W1 (w.heap.size) by rw [← hW]; (repeat' (first | with_reducible exact Kp.refl _ _ | with_reducible exact HX_R.out | with_reducible apply Kp.alloc | with_reducible apply Kp.drew | (with_reducible refine Kp.put ?_ ?_ ?_ _; rotate_left; (focus (first | omega | (simp; done) | (simp; omega))); rotate_left) | (with_reducible refine Bn.new _ _ _ _ ?_ ?_; (focus (first | omega | (simp; done) | (simp; omega))); decide) | with_reducible apply Bn.alloc | with_reducible apply Bn.drew | with_reducible apply Bn.set)))
  have hl_X_W1 : wa.heap.size < W1.heap.size := by rw [← hW]; (first | omega | (simp; done) | (simp; omega))
  have k_X_0_W1 : W1.cell? ⟨wa.heap.size, 0, none⟩ = some (.bool (decide ((p1).num < 0))) := by rw [← hW]; (first | (go_simp; done) | (simp; done) | (simp [go_sem]; done) | (simp [go_sem, k_R_0, k_R_1, k_R_2, f_R, hl_R]; done))
  have k_X_1_W1 : W1.cell? ⟨wa.heap.size, 1, none⟩ = some (.slice rx (nlen (p1).num.natAbs) cx) := by rw [← hW]; (first | (go_simp; done) | (simp; done) | (simp [go_sem]; done) | (simp [go_sem, k_R_0, k_R_1, k_R_2, f_R, hl_R]; done))
  have k_X_2_W1 : W1.cell? ⟨wa.heap.size, 2, none⟩ = some (.slice rx2 (nlen (p1).den) cx2) := by rw [← hW]; (first | (go_simp; done) | (simp; done) | (simp [go_sem]; done) | (simp [go_sem, k_R_0, k_R_1, k_R_2, f_R, hl_R]; done))
  have f_X_W1 : ∀ o, W1.frozen? ⟨wa.heap.size, o, none⟩ = false := by intro o; rw [← hW]; (first | (go_simp; done) | (simp; done) | (simp [go_sem]; done) | (simp [go_sem, k_R_0, k_R_1, k_R_2, f_R, hl_R]; done))
  have HX_X_W1 := Lib.hid (show Bn W1 (wa.heap.size) by rw [← hW]; (repeat' (first | with_reducible exact Kp.refl _ _ | with_reducible exact HX_R.out | with_reducible apply Kp.alloc | with_reducible apply Kp.drew | (with_reducible refine Kp.put ?_ ?_ ?_ _; rotate_left; (focus (first | omega | (simp; done) | (simp; omega))); rotate_left) | (with_reducible refine Bn.new _ _ _ _ ?_ ?_; (focus (first | omega | (simp; done) | (simp; omega))); decide) | with_reducible apply Bn.alloc | with_reducible apply Bn.drew | with_reducible apply Bn.set)))
  have hl_Y_W1 : wa.heap.size + 1 < W1.heap.size := by rw [← hW]; (first | omega | (simp; done) | (simp; omega))
  have k_Y_0_W1 : W1.cell? ⟨wa.heap.size + 1, 0, none⟩ = some (.bool (decide ((p2).num < 0))) := by rw [← hW]; (first | (go_simp; done) | (simp; done) | (simp [go_sem]; done) | (simp [go_sem, k_R_0, k_R_1, k_R_2, f_R, hl_R]; done))
  have k_Y_1_W1 : W1.cell? ⟨wa.heap.size + 1, 1, none⟩ = some (.slice ry (nlen (p2).num.natAbs) cy) := by rw [← hW]; (first | (go_simp; done) | (simp; done) | (simp [go_sem]; done) | (simp [go_sem, k_R_0, k_R_1, k_R_2, f_R, hl_R]; done))
  have k_Y_2_W1 : W1.cell? ⟨wa.heap.size + 1, 2, none⟩ = some (.slice ry2 (nlen (p2).den) cy2) := by rw [← hW]; (first | (go_simp; done) | (simp; done) | (simp [go_sem]; done) | (simp [go_sem, k_R_0, k_R_1, k_R_2, f_R, hl_R]; done))
  have f_Y_W1 : ∀ o, W1.frozen? ⟨wa.heap.size + 1, o, none⟩ = false := by intro o; rw [← hW]; (first | (go_simp; done) | (simp; done) | (simp [go_sem]; done) | (simp [go_sem, k_R_0, k_R_1, k_R_2, f_R, hl_R]; done))
  have HX_Y_W1 := Lib.hid (show Bn W1 (wa.heap.size + 1) by rw [← hW]; (repeat' (first | with_reducible exact Kp.refl _ _ | with_reducible exact HX_R.out | with_reducible apply Kp.alloc | with_reducible apply Kp.drew | (with_reducible refine Kp.put ?_ ?_ ?_ _; rotate_left; (focus (first | omega | (simp; done) | (simp; omega))); rotate_left) | (with_reducible refine Bn.new _ _ _ _ ?_ ?_; (focus (first | omega | (simp; done) | (simp; omega))); decide) | with_reducible apply Bn.alloc | with_reducible apply Bn.drew | with_reducible apply Bn.set)))
  have HK_W1 := Lib.hid (show Kp N wa W1 by rw [← hW]; (repeat' (first | with_reducible exact Kp.refl _ _ | with_reducible exact HX_R.out | with_reducible apply Kp.alloc | with_reducible apply Kp.drew | (with_reducible refine Kp.put ?_ ?_ ?_ _; rotate_left; (focus (first | omega | (simp; done) | (simp; omega))); rotate_left) | (with_reducible refine Bn.new _ _ _ _ ?_ ?_; (focus (first | omega | (simp; done) | (simp; omega))); decide) | with_reducible apply Bn.alloc | with_reducible apply Bn.drew | with_reducible apply Bn.set)))
  have HP1_W1 := Lib.hid (HP1.out.keep HK_W1.out)
  have HQ1_W1 := Lib.hid (HQ1.out.keep HK_W1.out)
  have HP2_W1 := Lib.hid (HP2.out.keep HK_W1.out)
  have HQ2_W1 := Lib.hid (HQ2.out.keep HK_W1.out)
  have HB_W1 := Lib.hid (show Below w.heap.size w W1 by rw [← hW]; (repeat' (first | with_reducible exact Below.refl _ _ | with_reducible exact HB.out | (with_reducible refine Below.alloc ?_ ?_ _; rotate_left; (focus (first | omega | (simp; done) | (simp; omega)))) | with_reducible apply Below.drew | (with_reducible refine Below.setCell ?_ ?_ _; rotate_left; (focus (first | omega | (simp; done) | (simp; omega)))))))
  clear hW HK_W1
  clear hl_R f_R HX_R k_R_0 k_R_1 k_R_2 HP1 HQ1 HP2 HQ2 HB hN hs0
  have hN := hN_W1
  have HB := HB_W1
  have hs0 := hs0_W1
  have hl_R := hl_R_W1
  have f_R := f_R_W1
  have HX_R := HX_R_W1
  have k_R_0 := k_R_0_W1
  have k_R_1 := k_R_1_W1
  have k_R_2 := k_R_2_W1
  have hl_X := hl_X_W1
  have f_X := f_X_W1
  have HX_X := HX_X_W1
  have k_X_0 := k_X_0_W1
  have k_X_1 := k_X_1_W1
  have k_X_2 := k_X_2_W1
  have hl_Y := hl_Y_W1
  have f_Y := f_Y_W1
  have HX_Y := HX_Y_W1
  have k_Y_0 := k_Y_0_W1
  have k_Y_1 := k_Y_1_W1
  have k_Y_2 := k_Y_2_W1
  have HP1 := HP1_W1
  have HQ1 := HQ1_W1
  have HP2 := HP2_W1
  have HQ2 := HQ2_W1
  clear hN_W1 HB_W1 hs0_W1 hl_R_W1 f_R_W1 HX_R_W1 k_R_0_W1 k_R_1_W1 k_R_2_W1 hl_X_W1 f_X_W1 HX_X_W1 k_X_0_W1 k_X_1_W1 k_X_2_W1 hl_Y_W1 f_Y_W1 HX_Y_W1 k_Y_0_W1 k_Y_1_W1 k_Y_2_W1 HP1_W1 HQ1_W1 HP2_W1 HQ2_W1
  go_region_held3 (fun w' => w'.cell? ⟨wa.heap.size, 0, none⟩ = some (.bool (decide ((p1).num < 0))) ∧ w'.cell? ⟨wa.heap.size, 1, none⟩ = some (.slice rx (nlen (p1).num.natAbs) cx) ∧ w'.cell? ⟨wa.heap.size, 2, none⟩ = some (.slice rx2 (nlen (p1).den) cx2) ∧ w'.cell? ⟨wa.heap.size + 1, 0, none⟩ = some (.bool (decide ((p2).num < 0))) ∧ w'.cell? ⟨wa.heap.size + 1, 1, none⟩ = some (.slice ry (nlen (p2).num.natAbs) cy) ∧ w'.cell? ⟨wa.heap.size + 1, 2, none⟩ = some (.slice ry2 (nlen (p2).den) cy2))
    (first | (go_keep; done) | ((try dsimp only); (repeat' apply And.intro) <;> (first | (go_keep; done) | (exact cell_keep_alloc_drew (by first | omega | (simp; omega)) (by first | assumption | go_simp)) | (exact cell_keep_alloc (by first | omega | (simp; omega)) (by first | assumption | go_simp)) | (rw [cell_set2 _ _ _ _ _ _ _ _ (by omega)]; assumption) | (rw [cell_set3 _ _ _ _ _ _ _ _ _ _ (by omega)]; assumption))))
    (first
      | (go_at_call 16; refine (cof_any (N := N) 1 1 _ (by exact hN) (by omega) (by omega) (by omega) (by omega) po HPo.out).mono ?_; rintro e wb ⟨ru, cu, ru2, cu2, rfl, hn, hn', hb⟩; replace hb : Below W1.heap.size W1 wb := (by first | exact hb | exact bel_of_drew hb); have hN_wb : N ≤ wb.heap.size := Nat.le_trans hN hb.size; have hs_wb : W1.heap.size ≤ wb.heap.size := hb.size; have hs0_wb : w.heap.size ≤ wb.heap.size := Nat.le_trans hs0 hb.size; have hl_R_wb : w.heap.size < wb.heap.size := Nat.lt_of_lt_of_le hl_R hb.size; have k_R_0_wb : wb.cell? ⟨w.heap.size, 0, none⟩ = some (.bool false) := (hb.cell (p := ⟨w.heap.size, 0, none⟩) hl_R).trans k_R_0; have k_R_1_wb : wb.cell? ⟨w.heap.size, 1, none⟩ = some (.slice none 0 0) := (hb.cell (p := ⟨w.heap.size, 1, none⟩) hl_R).trans k_R_1; have k_R_2_wb : wb.cell? ⟨w.heap.size, 2, none⟩ = some (.slice none 0 0) := (hb.cell (p := ⟨w.heap.size, 2, none⟩) hl_R).trans k_R_2; have f_R_wb : ∀ o, wb.frozen? ⟨w.heap.size, o, none⟩ = false := fun o => (hb.frozen (p := ⟨w.heap.size, o, none⟩) hl_R).trans (f_R o); have HX_R_wb := Lib.hid (HX_R.out.below hb); have hl_X_wb : wa.heap.size < wb.heap.size := Nat.lt_of_lt_of_le hl_X hb.size; have k_X_0_wb : wb.cell? ⟨wa.heap.size, 0, none⟩ = some (.bool (decide ((p1).num < 0))) := (hb.cell (p := ⟨wa.heap.size, 0, none⟩) hl_X).trans k_X_0; have k_X_1_wb : wb.cell? ⟨wa.heap.size, 1, none⟩ = some (.slice rx (nlen (p1).num.natAbs) cx) := (hb.cell (p := ⟨wa.heap.size, 1, none⟩) hl_X).trans k_X_1; have k_X_2_wb : wb.cell? ⟨wa.heap.size, 2, none⟩ = some (.slice rx2 (nlen (p1).den) cx2) := (hb.cell (p := ⟨wa.heap.size, 2, none⟩) hl_X).trans k_X_2; have f_X_wb : ∀ o, wb.frozen? ⟨wa.heap.size, o, none⟩ = false := fun o => (hb.frozen (p := ⟨wa.heap.size, o, none⟩) hl_X).trans (f_X o); have HX_X_wb := Lib.hid (HX_X.out.below hb); have hl_Y_wb : wa.heap.size + 1 < wb.heap.size := Nat.lt_of_lt_of_le hl_Y hb.size; have k_Y_0_wb : wb.cell? ⟨wa.heap.size + 1, 0, none⟩ = some (.bool (decide ((p2).num < 0))) := (hb.cell (p := ⟨wa.heap.size + 1, 0, none⟩) hl_Y).trans k_Y_0; have k_Y_1_wb : wb.cell? ⟨wa.heap.size + 1, 1, none⟩ = some (.slice ry (nlen (p2).num.natAbs) cy) := (hb.cell (p := ⟨wa.heap.size + 1, 1, none⟩) hl_Y).trans k_Y_1; have k_Y_2_wb : wb.cell? ⟨wa.heap.size + 1, 2, none⟩ = some (.slice ry2 (nlen (p2).den) cy2) := (hb.cell (p := ⟨wa.heap.size + 1, 2, none⟩) hl_Y).trans k_Y_2; have f_Y_wb : ∀ o, wb.frozen? ⟨wa.heap.size + 1, o, none⟩ = false := fun o => (hb.frozen (p := ⟨wa.heap.size + 1, o, none⟩) hl_Y).trans (f_Y o); have HX_Y_wb := Lib.hid (HX_Y.out.below hb); have HP1_wb := Lib.hid (HP1.out.below hb); have HQ1_wb := Lib.hid (HQ1.out.below hb); have HP2_wb := Lib.hid (HP2.out.below hb); have HQ2_wb := Lib.hid (HQ2.out.below hb); have HB_wb := Lib.hid (HB.out.trans (hb.mono hs0)); clear hb; clear hl_R f_R HX_R k_R_0 k_R_1 k_R_2 hl_X f_X HX_X k_X_0 k_X_1 k_X_2 hl_Y f_Y HX_Y k_Y_0 k_Y_1 k_Y_2 HP1 HQ1 HP2 HQ2 HB hN hs0; have hN := hN_wb; have HB := HB_wb; have hs0 := hs0_wb; have hl_R := hl_R_wb; have f_R := f_R_wb; have HX_R := HX_R_wb; have k_R_0 := k_R_0_wb; have k_R_1 := k_R_1_wb; have k_R_2 := k_R_2_wb; have hl_X := hl_X_wb; have f_X := f_X_wb; have HX_X := HX_X_wb; have k_X_0 := k_X_0_wb; have k_X_1 := k_X_1_wb; have k_X_2 := k_X_2_wb; have hl_Y := hl_Y_wb; have f_Y := f_Y_wb; have HX_Y := HX_Y_wb; have k_Y_0 := k_Y_0_wb; have k_Y_1 := k_Y_1_wb; have k_Y_2 := k_Y_2_wb; have HP1 := HP1_wb; have HQ1 := HQ1_wb; have HP2 := HP2_wb; have HQ2 := HQ2_wb; clear hN_wb HB_wb hs0_wb hl_R_wb f_R_wb HX_R_wb k_R_0_wb k_R_1_wb k_R_2_wb hl_X_wb f_X_wb HX_X_wb k_X_0_wb k_X_1_wb k_X_2_wb hl_Y_wb f_Y_wb HX_Y_wb k_Y_0_wb k_Y_1_wb k_Y_2_wb HP1_wb HQ1_wb HP2_wb HQ2_wb; have HP3 := Lib.hid hn; clear hn; have HQ3 := Lib.hid hn'; clear hn'; skip)
      | (go_at_call 13; refine (rsub_any (N := N) _ _ _ _ _ _ _ _ _ _ _ _ _ _ 2 (rsz p2) po p2 _ (by exact hN) (by exact Rt.of_norm HP3.out HQ3.out 2 HSo.out) (by exact Rt.of_norm HP2.out HQ2.out _ (Nat.le_refl _)) (by omega) (by exact HS2.out) pd HPd.out).mono ?_; rintro e wc ⟨rv, cv, rv2, cv2, rfl, hn, hn', hb⟩; replace hb : Below wb.heap.size wb wc := (by first | exact hb | exact bel_of_drew hb); have hN_wc : N ≤ wc.heap.size := Nat.le_trans hN hb.size; have hs_wc : wb.heap.size ≤ wc.heap.size := hb.size; have hs0_wc : w.heap.size ≤ wc.heap.size := Nat.le_trans hs0 hb.size; have hl_R_wc : w.heap.size < wc.heap.size := Nat.lt_of_lt_of_le hl_R hb.size; have k_R_0_wc : wc.cell? ⟨w.heap.size, 0, none⟩ = some (.bool false) := (hb.cell (p := ⟨w.heap.size, 0, none⟩) hl_R).trans k_R_0; have k_R_1_wc : wc.cell? ⟨w.heap.size, 1, none⟩ = some (.slice none 0 0) := (hb.cell (p := ⟨w.heap.size, 1, none⟩) hl_R).trans k_R_1; have k_R_2_wc : wc.cell? ⟨w.heap.size, 2, none⟩ = some (.slice none 0 0) := (hb.cell (p := ⟨w.heap.size, 2, none⟩) hl_R).trans k_R_2; have f_R_wc : ∀ o, wc.frozen? ⟨w.heap.size, o, none⟩ = false := fun o => (hb.frozen (p := ⟨w.heap.size, o, none⟩) hl_R).trans (f_R o); have HX_R_wc := Lib.hid (HX_R.out.below hb); have hl_X_wc : wa.heap.size < wc.heap.size := Nat.lt_of_lt_of_le hl_X hb.size; have k_X_0_wc : wc.cell? ⟨wa.heap.size, 0, none⟩ = some (.bool (decide ((p1).num < 0))) := (hb.cell (p := ⟨wa.heap.size, 0, none⟩) hl_X).trans k_X_0; have k_X_1_wc : wc.cell? ⟨wa.heap.size, 1, none⟩ = some (.slice rx (nlen (p1).num.natAbs) cx) := (hb.cell (p := ⟨wa.heap.size, 1, none⟩) hl_X).trans k_X_1; have k_X_2_wc : wc.cell? ⟨wa.heap.size, 2, none⟩ = some (.slice rx2 (nlen (p1).den) cx2) := (hb.cell (p := ⟨wa.heap.size, 2, none⟩) hl_X).trans k_X_2; have f_X_wc : ∀ o, wc.frozen? ⟨wa.heap.size, o, none⟩ = false := fun o => (hb.frozen (p := ⟨wa.heap.size, o, none⟩) hl_X).trans (f_X o); have HX_X_wc := Lib.hid (HX_X.out.below hb); have hl_Y_wc : wa.heap.size + 1 < wc.heap.size := Nat.lt_of_lt_of_le hl_Y hb.size; have k_Y_0_wc : wc.cell? ⟨wa.heap.size + 1, 0, none⟩ = some (.bool (decide ((p2).num < 0))) := (hb.cell (p := ⟨wa.heap.size + 1, 0, none⟩) hl_Y).trans k_Y_0; have k_Y_1_wc : wc.cell? ⟨wa.heap.size + 1, 1, none⟩ = some (.slice ry (nlen (p2).num.natAbs) cy) := (hb.cell (p := ⟨wa.heap.size + 1, 1, none⟩) hl_Y).trans k_Y_1; have k_Y_2_wc : wc.cell? ⟨wa.heap.size + 1, 2, none⟩ = some (.slice ry2 (nlen (p2).den) cy2) := (hb.cell (p := ⟨wa.heap.size + 1, 2, none⟩) hl_Y).trans k_Y_2; have f_Y_wc : ∀ o, wc.frozen? ⟨wa.heap.size + 1, o, none⟩ = false := fun o => (hb.frozen (p := ⟨wa.heap.size + 1, o, none⟩) hl_Y).trans (f_Y o); have HX_Y_wc := Lib.hid (HX_Y.out.below hb); have HP1_wc := Lib.hid (HP1.out.below hb); have HQ1_wc := Lib.hid (HQ1.out.below hb); have HP2_wc := Lib.hid (HP2.out.below hb); have HQ2_wc := Lib.hid (HQ2.out.below hb); have HP3_wc := Lib.hid (HP3.out.below hb); have HQ3_wc := Lib.hid (HQ3.out.below hb); have HB_wc := Lib.hid (HB.out.trans (hb.mono hs0)); clear hb; clear hl_R f_R HX_R k_R_0 k_R_1 k_R_2 hl_X f_X HX_X k_X_0 k_X_1 k_X_2 hl_Y f_Y HX_Y k_Y_0 k_Y_1 k_Y_2 HP1 HQ1 HP2 HQ2 HP3 HQ3 HB hN hs0; have hN := hN_wc; have HB := HB_wc; have hs0 := hs0_wc; have hl_R := hl_R_wc; have f_R := f_R_wc; have HX_R := HX_R_wc; have k_R_0 := k_R_0_wc; have k_R_1 := k_R_1_wc; have k_R_2 := k_R_2_wc; have hl_X := hl_X_wc; have f_X := f_X_wc; have HX_X := HX_X_wc; have k_X_0 := k_X_0_wc; have k_X_1 := k_X_1_wc; have k_X_2 := k_X_2_wc; have hl_Y := hl_Y_wc; have f_Y := f_Y_wc; have HX_Y := HX_Y_wc; have k_Y_0 := k_Y_0_wc; have k_Y_1 := k_Y_1_wc; have k_Y_2 := k_Y_2_wc; have HP1 := HP1_wc; have HQ1 := HQ1_wc; have HP2 := HP2_wc; have HQ2 := HQ2_wc; have HP3 := HP3_wc; have HQ3 := HQ3_wc; clear hN_wc HB_wc hs0_wc hl_R_wc f_R_wc HX_R_wc k_R_0_wc k_R_1_wc k_R_2_wc hl_X_wc f_X_wc HX_X_wc k_X_0_wc k_X_1_wc k_X_2_wc hl_Y_wc f_Y_wc HX_Y_wc k_Y_0_wc k_Y_1_wc k_Y_2_wc HP1_wc HQ1_wc HP2_wc HQ2_wc HP3_wc HQ3_wc; have HP4 := Lib.hid hn; clear hn; have HQ4 := Lib.hid hn'; clear hn'; skip)
      | (go_at_call 12; refine (rmul_any (N := N) _ _ _ _ _ _ _ _ _ _ _ _ _ _ (rsz p1) (rsz pd) p1 pd _ (by exact hN) (by exact Rt.of_norm HP1.out HQ1.out _ (Nat.le_refl _)) (by exact Rt.of_norm HP4.out HQ4.out _ (Nat.le_refl _)) (by exact HS1.out) (by exact HSd.out) p HP.out).mono ?_; rintro e wd ⟨rt, ct, rt2, ct2, rfl, hn, hn', hb⟩; replace hb : Below wc.heap.size wc wd := (by first | exact hb | exact bel_of_drew hb); have hN_wd : N ≤ wd.heap.size := Nat.le_trans hN hb.size; have hs_wd : wc.heap.size ≤ wd.heap.size := hb.size; have hs0_wd : w.heap.size ≤ wd.heap.size := Nat.le_trans hs0 hb.size; have hl_R_wd : w.heap.size < wd.heap.size := Nat.lt_of_lt_of_le hl_R hb.size; have k_R_0_wd : wd.cell? ⟨w.heap.size, 0, none⟩ = some (.bool false) := (hb.cell (p := ⟨w.heap.size, 0, none⟩) hl_R).trans k_R_0; have k_R_1_wd : wd.cell? ⟨w.heap.size, 1, none⟩ = some (.slice none 0 0) := (hb.cell (p := ⟨w.heap.size, 1, none⟩) hl_R).trans k_R_1; have k_R_2_wd : wd.cell? ⟨w.heap.size, 2, none⟩ = some (.slice none 0 0) := (hb.cell (p := ⟨w.heap.size, 2, none⟩) hl_R).trans k_R_2; have f_R_wd : ∀ o, wd.frozen? ⟨w.heap.size, o, none⟩ = false := fun o => (hb.frozen (p := ⟨w.heap.size, o, none⟩) hl_R).trans (f_R o); have HX_R_wd := Lib.hid (HX_R.out.below hb); have hl_X_wd : wa.heap.size < wd.heap.size := Nat.lt_of_lt_of_le hl_X hb.size; have k_X_0_wd : wd.cell? ⟨wa.heap.size, 0, none⟩ = some (.bool (decide ((p1).num < 0))) := (hb.cell (p := ⟨wa.heap.size, 0, none⟩) hl_X).trans k_X_0; have k_X_1_wd : wd.cell? ⟨wa.heap.size, 1, none⟩ = some (.slice rx (nlen (p1).num.natAbs) cx) := (hb.cell (p := ⟨wa.heap.size, 1, none⟩) hl_X).trans k_X_1; have k_X_2_wd : wd.cell? ⟨wa.heap.size, 2, none⟩ = some (.slice rx2 (nlen (p1).den) cx2) := (hb.cell (p := ⟨wa.heap.size, 2, none⟩) hl_X).trans k_X_2; have f_X_wd : ∀ o, wd.frozen? ⟨wa.heap.size, o, none⟩ = false := fun o => (hb.frozen (p := ⟨wa.heap.size, o, none⟩) hl_X).trans (f_X o); have HX_X_wd := Lib.hid (HX_X.out.below hb); have hl_Y_wd : wa.heap.size + 1 < wd.heap.size := Nat.lt_of_lt_of_le hl_Y hb.size; have k_Y_0_wd : wd.cell? ⟨wa.heap.size + 1, 0, none⟩ = some (.bool (decide ((p2).num < 0))) := (hb.cell (p := ⟨wa.heap.size + 1, 0, none⟩) hl_Y).trans k_Y_0; have k_Y_1_wd : wd.cell? ⟨wa.heap.size + 1, 1, none⟩ = some (.slice ry (nlen (p2).num.natAbs) cy) := (hb.cell (p := ⟨wa.heap.size + 1, 1, none⟩) hl_Y).trans k_Y_1; have k_Y_2_wd : wd.cell? ⟨wa.heap.size + 1, 2, none⟩ = some (.slice ry2 (nlen (p2).den) cy2) := (hb.cell (p := ⟨wa.heap.size + 1, 2, none⟩) hl_Y).trans k_Y_2; have f_Y_wd : ∀ o, wd.frozen? ⟨wa.heap.size + 1, o, none⟩ = false := fun o => (hb.frozen (p := ⟨wa.heap.size + 1, o, none⟩) hl_Y).trans (f_Y o); have HX_Y_wd := Lib.hid (HX_Y.out.below hb); have HP1_wd := Lib.hid (HP1.out.below hb); have HQ1_wd := Lib.hid (HQ1.out.below hb); have HP2_wd := Lib.hid (HP2.out.below hb); have HQ2_wd := Lib.hid (HQ2.out.below hb); have HP3_wd := Lib.hid (HP3.out.below hb); have HQ3_wd := Lib.hid (HQ3.out.below hb); have HP4_wd := Lib.hid (HP4.out.below hb); have HQ4_wd := Lib.hid (HQ4.out.below hb); have HB_wd := Lib.hid (HB.out.trans (hb.mono hs0)); clear hb; clear hl_R f_R HX_R k_R_0 k_R_1 k_R_2 hl_X f_X HX_X k_X_0 k_X_1 k_X_2 hl_Y f_Y HX_Y k_Y_0 k_Y_1 k_Y_2 HP1 HQ1 HP2 HQ2 HP3 HQ3 HP4 HQ4 HB hN hs0; have hN := hN_wd; have HB := HB_wd; have hs0 := hs0_wd; have hl_R := hl_R_wd; have f_R := f_R_wd; have HX_R := HX_R_wd; have k_R_0 := k_R_0_wd; have k_R_1 := k_R_1_wd; have k_R_2 := k_R_2_wd; have hl_X := hl_X_wd; have f_X := f_X_wd; have HX_X := HX_X_wd; have k_X_0 := k_X_0_wd; have k_X_1 := k_X_1_wd; have k_X_2 := k_X_2_wd; have hl_Y := hl_Y_wd; have f_Y := f_Y_wd; have HX_Y := HX_Y_wd; have k_Y_0 := k_Y_0_wd; have k_Y_1 := k_Y_1_wd; have k_Y_2 := k_Y_2_wd; have HP1 := HP1_wd; have HQ1 := HQ1_wd; have HP2 := HP2_wd; have HQ2 := HQ2_wd; have HP3 := HP3_wd; have HQ3 := HQ3_wd; have HP4 := HP4_wd; have HQ4 := HQ4_wd; clear hN_wd HB_wd hs0_wd hl_R_wd f_R_wd HX_R_wd k_R_0_wd k_R_1_wd k_R_2_wd hl_X_wd f_X_wd HX_X_wd k_X_0_wd k_X_1_wd k_X_2_wd hl_Y_wd f_Y_wd HX_Y_wd k_Y_0_wd k_Y_1_wd k_Y_2_wd HP1_wd HQ1_wd HP2_wd HQ2_wd HP3_wd HQ3_wd HP4_wd HQ4_wd; have HP5 := Lib.hid hn; clear hn; have HQ5 := Lib.hid hn'; clear hn'; skip))
  go_wp2_with fail
  refine bodyPost_ret (v := .tuple #[.agg #[.bool (decide ((p).num < 0)), .slice rt (nlen (p).num.natAbs) ct, .slice rt2 (nlen (p).den) ct2], .int .i64 0]) (by simp [results, Try.results6, go_sem, k_R_0, k_R_1, k_R_2]) rfl ⟨_, _, _, _, rfl, HP5.out.keep ?_, HQ5.out.keep ?_, ?_⟩
  all_goals first | ((repeat' (first | with_reducible exact Kp.refl _ _ | with_reducible exact HX_R.out | with_reducible exact HX_X.out | with_reducible exact HX_Y.out | with_reducible apply Kp.alloc | with_reducible apply Kp.drew | (with_reducible refine Kp.put ?_ ?_ ?_ _; rotate_left; (focus (first | omega | (simp; done) | (simp; omega))); rotate_left) | (with_reducible refine Bn.new _ _ _ _ ?_ ?_; (focus (first | omega | (simp; done) | (simp; omega))); decide) | with_reducible apply Bn.alloc | with_reducible apply Bn.drew | with_reducible apply Bn.set)); done) | ((repeat' (first | with_reducible exact Below.refl _ _ | with_reducible exact HB.out | (with_reducible refine Below.alloc ?_ ?_ _; rotate_left; (focus (first | omega | (simp; done) | (simp; omega)))) | with_reducible apply Below.drew | (with_reducible refine Below.setCell ?_ ?_ _; rotate_left; (focus (first | omega | (simp; done) | (simp; omega)))))); done)

end Go.Proofs.Ytbjgnpgachdlaaa
