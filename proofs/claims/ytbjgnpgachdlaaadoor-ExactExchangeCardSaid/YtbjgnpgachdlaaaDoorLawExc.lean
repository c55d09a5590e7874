/- ExactExchange returns true for every input (the walk). -/
import Derived.Test.YtbjgnpgachdlaaaDoorJoG
namespace Go.Proofs.YtbjgnpgachdlaaaDoor
open Go.RowKit

set_option maxHeartbeats 4000000 in
theorem exc_no {N : Nat} (t m d : Nat) (w : World) (hN : N ≤ w.heap.size) (htab : TabW w) (t1 : t ≤ 255) (m1 : m ≤ 255) (d1 : d ≤ 255) (hbad : 121 ≤ t ∨ t < m ∨ t < d) :
    Calls Tryd.prog 6 #[.int .u8 t, .int .u8 m, .int .u8 d] w fun e w' => e = .returned (.bool true) ∧ Below w.heap.size w w' := by
  have hN0 := hN
  have HT := Lib.hid htab
  clear htab
  have HB := Lib.hid (Below.refl w.heap.size w)
  go_enter Tryd.func6, Tryd.ntmps6
  go_wp2_with fail
  refine calls_name fun W0 hW => ?_
  have hN_W0 : N ≤ W0.heap.size := by rw [← hW]; (first | omega | (simp; done) | (simp; omega))
  have hs_W0 : w.heap.size ≤ W0.heap.size := by rw [← hW]; (first | omega | (simp; done) | (simp; omega))
  have hs0_W0 : w.heap.size ≤ W0.heap.size := by rw [← hW]; (first | omega | (simp; done) | (simp; omega))
  have HB_W0 := Lib.hid (show Below w.heap.size w W0 by rw [← hW]; (repeat' (first | with_reducible exact Below.refl _ _ | with_reducible exact HB.out | (with_reducible refine Below.alloc ?_ ?_ _; rotate_left; (focus (first | omega | (simp; done) | (simp; omega)))) | with_reducible apply Below.drew | (with_reducible refine Below.setCell ?_ ?_ _; rotate_left; (focus (first | omega | (simp; done) | (simp; omega)))))))
  have HL_W0 := Lib.hid (show Below w.heap.size w W0 by rw [← hW]; (repeat' (first | with_reducible exact Below.refl _ _ | (with_reducible refine Below.alloc ?_ ?_ _; rotate_left; (focus (first | omega | (simp; done) | (simp; omega)))) | with_reducible apply Below.drew | (with_reducible refine Below.setCell ?_ ?_ _; rotate_left; (focus (first | omega | (simp; done) | (simp; omega)))))))
  have HT_W0 := Lib.hid (HT.out.below HL_W0.out)
  clear HL_W0
  clear hW
  clear HB hN
  have hN := hN_W0
  have HB := HB_W0
  have hs0 := hs0_W0
  clear hN_W0 HB_W0 hs0_W0
  clear HT
  have HT := HT_W0
  clear HT_W0
  refine (hyper_no t m d _ (by omega)).mono ?_
  rintro e wa ⟨rfl, hb⟩
  have HT_wa := Lib.hid (HT.out.below hb)
  have hN_wa : N ≤ wa.heap.size := Nat.le_trans hN hb.size
  have hs_wa : W0.heap.size ≤ wa.heap.size := hb.size
  have hs0_wa : w.heap.size ≤ wa.heap.size := Nat.le_trans hs0 hb.size
  have HB_wa := Lib.hid (HB.out.trans (hb.mono hs0))
  clear hb
  clear HB hN hs0
  have hN := hN_wa
  have HB := HB_wa
  have hs0 := hs0_wa
  clear hN_wa HB_wa hs0_wa
  clear HT
  have HT := HT_wa
  clear HT_wa
  go_wp2_with fail
  refine (hyper_no t d m _ (by omega)).mono ?_
  rintro e wb ⟨rfl, hb⟩
  have HT_wb := Lib.hid (HT.out.below hb)
  have hN_wb : N ≤ wb.heap.size := Nat.le_trans hN hb.size
  have hs_wb : wa.heap.size ≤ wb.heap.size := hb.size
  have hs0_wb : w.heap.size ≤ wb.heap.size := Nat.le_trans hs0 hb.size
  have HB_wb := Lib.hid (HB.out.trans (hb.mono hs0))
  clear hb
  clear HB hN hs0
  have hN := hN_wb
  have HB := HB_wb
  have hs0 := hs0_wb
  clear hN_wb HB_wb hs0_wb
  clear HT
  have HT := HT_wb
  clear HT_wb
  go_wp2_with fail
  refine (SameList_nil _).mono ?_
  rintro e wc ⟨rfl, hb⟩
  have HT_wc := Lib.hid (HT.out.below hb)
  have hN_wc : N ≤ wc.heap.size := Nat.le_trans hN hb.size
  have hs_wc : wb.heap.size ≤ wc.heap.size := hb.size
  have hs0_wc : w.heap.size ≤ wc.heap.size := Nat.le_trans hs0 hb.size
  have HB_wc := Lib.hid (HB.out.trans (hb.mono hs0))
  clear hb
  clear HB hN hs0
  have hN := hN_wc
  have HB := HB_wc
  have hs0 := hs0_wc
  clear hN_wc HB_wc hs0_wc
  clear HT
  have HT := HT_wc
  clear HT_wc
  go_wp2_with fail
  refine (awake_any (N := N) _ hN HT.out).mono ?_
  rintro e wd ⟨rfl, hb⟩
  have HT_wd := Lib.hid (HT.out.below hb)
  have hN_wd : N ≤ wd.heap.size := Nat.le_trans hN hb.size
  have hs_wd : wc.heap.size ≤ wd.heap.size := hb.size
  have hs0_wd : w.heap.size ≤ wd.heap.size := Nat.le_trans hs0 hb.size
  have HB_wd := Lib.hid (HB.out.trans (hb.mono hs0))
  clear hb
  clear HB hN hs0
  have hN := hN_wd
  have HB := HB_wd
  have hs0 := hs0_wd
  clear hN_wd HB_wd hs0_wd
  clear HT
  have HT := HT_wd
  clear HT_wd
  go_wp2_with fail
  go_ret
  exact ⟨rfl, HB.out⟩

set_option maxHeartbeats 8000000 in
theorem exc_ok {N : Nat} (t m d : Nat) (w : World) (hN : N ≤ w.heap.size) (htab : TabW w) (t1 : t ≤ 120) (hm : m ≤ t) (hd : d ≤ t) :
    Calls Tryd.prog 6 #[.int .u8 t, .int .u8 m, .int .u8 d] w fun e w' => e = .returned (.bool true) ∧ Below w.heap.size w w' := by
  obtain ⟨n, hn⟩ : ∃ n, min m d + 1 = n := ⟨_, rfl⟩
  have HN := Lib.hid hn
  have HN2 := Lib.hid (show min d m + 1 = n by omega)
  have hn1 : n ≤ 121 := by omega
  have HV := Lib.hid (show valid (hyQ t m d) n = true by rw [← hn]; exact hyQ_valid t m d t1 hm hd)
  rcases Nat.eq_zero_or_pos t with h0 | h0
  · have dt : ((t : Int) == 0) = true := by simp; omega
    have dt2 : (t == 0) = true := by simp; omega
    clear hn h0
    have hN0 := hN
    have HT := Lib.hid htab
    clear htab
    have HB := Lib.hid (Below.refl w.heap.size w)
    go_enter Tryd.func6, Tryd.ntmps6
    go_wp2_with fail
    refine calls_name fun W0 hW => ?_
    have hN_W0 : N ≤ W0.heap.size := by rw [← hW]; (first | omega | (simp; done) | (simp; omega))
    have hs_W0 : w.heap.size ≤ W0.heap.size := by rw [← hW]; (first | omega | (simp; done) | (simp; omega))
    have hs0_W0 : w.heap.size ≤ W0.heap.size := by rw [← hW]; (first | omega | (simp; done) | (simp; omega))
    have HB_W0 := Lib.hid (show Below w.heap.size w W0 by rw [← hW]; (repeat' (first | with_reducible exact Below.refl _ _ | with_reducible exact HB.out | (with_reducible refine Below.alloc ?_ ?_ _; rotate_left; (focus (first | omega | (simp; done) | (simp; omega)))) | with_reducible apply Below.drew | (with_reducible refine Below.setCell ?_ ?_ _; rotate_left; (focus (first | omega | (simp; done) | (simp; omega)))))))
    have HL_W0 := Lib.hid (show Below w.heap.size w W0 by rw [← hW]; (repeat' (first | with_reducible exact Below.refl _ _ | (with_reducible refine Below.alloc ?_ ?_ _; rotate_left; (focus (first | omega | (simp; done) | (simp; omega)))) | with_reducible apply Below.drew | (with_reducible refine Below.setCell ?_ ?_ _; rotate_left; (focus (first | omega | (simp; done) | (simp; omega)))))))
    have HT_W0 := Lib.hid (HT.out.below HL_W0.out)
    clear HL_W0
    clear hW
    clear HB hN
    have hN := hN_W0
    have HB := HB_W0
    have hs0 := hs0_W0
    clear hN_W0 HB_W0 hs0_W0
    clear HT
    have HT := HT_W0
    clear HT_W0
    refine (hyper_ok (N := N) t m d n _ hN (by omega) hm hd HN.out (hyQ t m d) (fun i _ => rfl)).mono ?_
    rintro e wa ⟨ba, rfl, ba1, ba2, hl, hb⟩
    have HT_wa := Lib.hid (HT.out.below hb)
    have hN_wa : N ≤ wa.heap.size := Nat.le_trans hN hb.size
    have hs_wa : W0.heap.size ≤ wa.heap.size := hb.size
    have hs0_wa : w.heap.size ≤ wa.heap.size := Nat.le_trans hs0 hb.size
    have HB_wa := Lib.hid (HB.out.trans (hb.mono hs0))
    clear hb
    clear HB hN hs0
    have hN := hN_wa
    have HB := HB_wa
    have hs0 := hs0_wa
    clear hN_wa HB_wa hs0_wa
    clear HT
    have HT := HT_wa
    clear HT_wa
    have LA := Lib.hid hl
    clear hl
    go_wp2_with fail
    refine (hyper_ok (N := N) t d m n _ hN (by omega) hd hm HN2.out (hyQ t m d) (fun i hi => hyQ_swap t m d i hm hd (by have := HN.out; omega) (by have := HN.out; omega))).mono ?_
    rintro e wb ⟨bb, rfl, bb1, bb2, hl, hb⟩
    have LA_wb := Lib.hid (LA.out.below hb)
    have HT_wb := Lib.hid (HT.out.below hb)
    have hN_wb : N ≤ wb.heap.size := Nat.le_trans hN hb.size
    have hs_wb : wa.heap.size ≤ wb.heap.size := hb.size
    have hs0_wb : w.heap.size ≤ wb.heap.size := Nat.le_trans hs0 hb.size
    have HB_wb := Lib.hid (HB.out.trans (hb.mono hs0))
    clear hb
    clear HB hN hs0
    have hN := hN_wb
    have HB := HB_wb
    have hs0 := hs0_wb
    clear hN_wb HB_wb hs0_wb
    clear LA HT
    have LA := LA_wb
    have HT := HT_wb
    clear LA_wb HT_wb
    have LB := Lib.hid hl
    clear hl
    go_wp2_with fail
    refine (SameList_any (N := N) _ _ n (hyQ t m d) _ hN (by omega) LA.out LB.out).mono ?_
    rintro e wc ⟨rfl, hb⟩
    have LA_wc := Lib.hid (LA.out.below hb)
    have LB_wc := Lib.hid (LB.out.below hb)
    have HT_wc := Lib.hid (HT.out.below hb)
    have hN_wc : N ≤ wc.heap.size := Nat.le_trans hN hb.size
    have hs_wc : wb.heap.size ≤ wc.heap.size := hb.size
    have hs0_wc : w.heap.size ≤ wc.heap.size := Nat.le_trans hs0 hb.size
    have HB_wc := Lib.hid (HB.out.trans (hb.mono hs0))
    clear hb
    clear HB hN hs0
    have hN := hN_wc
    have HB := HB_wc
    have hs0 := hs0_wc
    clear hN_wc HB_wc hs0_wc
    clear LA LB HT
    have LA := LA_wc
    have LB := LB_wc
    have HT := HT_wc
    clear LA_wc LB_wc HT_wc
    clear LB
    go_wp2_with fail
    refine (awake_any (N := N) _ hN HT.out).mono ?_
    rintro e wd ⟨rfl, hb⟩
    have LA_wd := Lib.hid (LA.out.below hb)
    have HT_wd := Lib.hid (HT.out.below hb)
    have hN_wd : N ≤ wd.heap.size := Nat.le_trans hN hb.size
    have hs_wd : wc.heap.size ≤ wd.heap.size := hb.size
    have hs0_wd : w.heap.size ≤ wd.heap.size := Nat.le_trans hs0 hb.size
    have HB_wd := Lib.hid (HB.out.trans (hb.mono hs0))
    clear hb
    clear HB hN hs0
    have hN := hN_wd
    have HB := HB_wd
    have hs0 := hs0_wd
    clear hN_wd HB_wd hs0_wd
    clear LA HT
    have LA := LA_wd
    have HT := HT_wd
    clear LA_wd HT_wd
    go_wp2_with fail
    go_ret
    exact ⟨rfl, HB.out⟩
  · obtain ⟨p, hp⟩ : ∃ p, frq m t * frq d 1 = p := ⟨_, rfl⟩
    have HPm := Lib.hid hp
    have HP := Lib.hid (show meanQ (hyQ t m d) n = p by rw [← hn, hyQ_mean t m d h0 hm hd, hp])
    have HZ := Lib.hid (show rsz p ≤ 2 by rw [← hp]; have h1 := rsz_mul (frq m t) (frq d 1); have h2 := frq_len m t 1 (by omega) (nlen_small (by omega)) (nlen_small (by omega)); have h3 := frq_len d 1 1 (by omega) (nlen_small (by omega)) (nlen_small (by omega)); omega)
    have dt : ((t : Int) == 0) = false := by simp; omega
    have dt2 : (t == 0) = false := by simp; omega
    clear hn hp
    have hN0 := hN
    have HT := Lib.hid htab
    clear htab
    have HB := Lib.hid (Below.refl w.heap.size w)
    go_enter Tryd.func6, Tryd.ntmps6
    go_wp2_with fail
    refine calls_name fun W0 hW => ?_
    have hN_W0 : N ≤ W0.heap.size := by rw [← hW]; (first | omega | (simp; done) | (simp; omega))
    have hs_W0 : w.heap.size ≤ W0.heap.size := by rw [← hW]; (first | omega | (simp; done) | (simp; omega))
    have hs0_W0 : w.heap.size ≤ W0.heap.size := by rw [← hW]; (first | omega | (simp; done) | (simp; omega))
    have HB_W0 := Lib.hid (show Below w.heap.size w W0 by rw [← hW]; (repeat' (first | with_reducible exact Below.refl _ _ | with_reducible exact HB.out | (with_reducible refine Below.alloc ?_ ?_ _; rotate_left; (focus (first | omega | (simp; done) | (simp; omega)))) | with_reducible apply Below.drew | (with_reducible refine Below.setCell ?_ ?_ _; rotate_left; (focus (first | omega | (simp; done) | (simp; omega)))))))
    have HL_W0 := Lib.hid (show Below w.heap.size w W0 by rw [← hW]; (repeat' (first | with_reducible exact Below.refl _ _ | (with_reducible refine Below.alloc ?_ ?_ _; rotate_left; (focus (first | omega | (simp; done) | (simp; omega)))) | with_reducible apply Below.drew | (with_reducible refine Below.setCell ?_ ?_ _; rotate_left; (focus (first | omega | (simp; done) | (simp; omega)))))))
    have HT_W0 := Lib.hid (HT.out.below HL_W0.out)
    clear HL_W0
    clear hW
    clear HB hN
    have hN := hN_W0
    have HB := HB_W0
    have hs0 := hs0_W0
    clear hN_W0 HB_W0 hs0_W0
    clear HT
    have HT := HT_W0
    clear HT_W0
    refine (hyper_ok (N := N) t m d n _ hN (by omega) hm hd HN.out (hyQ t m d) (fun i _ => rfl)).mono ?_
    rintro e wa ⟨ba, rfl, ba1, ba2, hl, hb⟩
    have HT_wa := Lib.hid (HT.out.below hb)
    have hN_wa : N ≤ wa.heap.size := Nat.le_trans hN hb.size
    have hs_wa : W0.heap.size ≤ wa.heap.size := hb.size
    have hs0_wa : w.heap.size ≤ wa.heap.size := Nat.le_trans hs0 hb.size
    have HB_wa := Lib.hid (HB.out.trans (hb.mono hs0))
    clear hb
    clear HB hN hs0
    have hN := hN_wa
    have HB := HB_wa
    have hs0 := hs0_wa
    clear hN_wa HB_wa hs0_wa
    clear HT
    have HT := HT_wa
    clear HT_wa
    have LA := Lib.hid hl
    clear hl
    go_wp2_with fail
    refine (hyper_ok (N := N) t d m n _ hN (by omega) hd hm HN2.out (hyQ t m d) (fun i hi => hyQ_swap t m d i hm hd (by have := HN.out; omega) (by have := HN.out; omega))).mono ?_
    rintro e wb ⟨bb, rfl, bb1, bb2, hl, hb⟩
    have LA_wb := Lib.hid (LA.out.below hb)
    have HT_wb := Lib.hid (HT.out.below hb)
    have hN_wb : N ≤ wb.heap.size := Nat.le_trans hN hb.size
    have hs_wb : wa.heap.size ≤ wb.heap.size := hb.size
    have hs0_wb : w.heap.size ≤ wb.heap.size := Nat.le_trans hs0 hb.size
    have HB_wb := Lib.hid (HB.out.trans (hb.mono hs0))
    clear hb
    clear HB hN hs0
    have hN := hN_wb
    have HB := HB_wb
    have hs0 := hs0_wb
    clear hN_wb HB_wb hs0_wb
    clear LA HT
    have LA := LA_wb
    have HT := HT_wb
    clear LA_wb HT_wb
    have LB := Lib.hid hl
    clear hl
    go_wp2_with fail
    refine (SameList_any (N := N) _ _ n (hyQ t m d) _ hN (by omega) LA.out LB.out).mono ?_
    rintro e wc ⟨rfl, hb⟩
    have LA_wc := Lib.hid (LA.out.below hb)
    have LB_wc := Lib.hid (LB.out.below hb)
    have HT_wc := Lib.hid (HT.out.below hb)
    have hN_wc : N ≤ wc.heap.size := Nat.le_trans hN hb.size
    have hs_wc : wb.heap.size ≤ wc.heap.size := hb.size
    have hs0_wc : w.heap.size ≤ wc.heap.size := Nat.le_trans hs0 hb.size
    have HB_wc := Lib.hid (HB.out.trans (hb.mono hs0))
    clear hb
    clear HB hN hs0
    have hN := hN_wc
    have HB := HB_wc
    have hs0 := hs0_wc
    clear hN_wc HB_wc hs0_wc
    clear LA LB HT
    have LA := LA_wc
    have LB := LB_wc
    have HT := HT_wc
    clear LA_wc LB_wc HT_wc
    clear LB
    go_wp2_with fail
    refine (Mean_ok (N := N) _ n _ (hyQ t m d) 14 _ hN (LA.out.rs (by unfold maxLen; omega) 14 (fun i _ => hyQ_len t m d i (by omega) hm)) (by omega) HV.out p HP.out).mono ?_
    rintro e wd ⟨rm, cm, rm2, cm2, rfl, hn, hn', hb⟩
    have LA_wd := Lib.hid (LA.out.below hb)
    have HT_wd := Lib.hid (HT.out.below hb)
    have hN_wd : N ≤ wd.heap.size := Nat.le_trans hN hb.size
    have hs_wd : wc.heap.size ≤ wd.heap.size := hb.size
    have hs0_wd : w.heap.size ≤ wd.heap.size := Nat.le_trans hs0 hb.size
    have HB_wd := Lib.hid (HB.out.trans (hb.mono hs0))
    clear hb
    clear HB hN hs0
    have hN := hN_wd
    have HB := HB_wd
    have hs0 := hs0_wd
    clear hN_wd HB_wd hs0_wd
    clear LA HT
    have LA := LA_wd
    have HT := HT_wd
    clear LA_wd HT_wd
    have HM1 := Lib.hid hn
    clear hn
    have HM2 := Lib.hid hn'
    clear hn'
    go_wp2_with fail
    refine calls_name fun W1 hW => ?_
    have hN_W1 : N ≤ W1.heap.size := by rw [← hW]; (first | omega | (simp; done) | (simp; omega))
    have hs_W1 : wd.heap.size ≤ W1.heap.size := by rw [← hW]; (first | omega | (simp; done) | (simp; omega))
    have hs0_W1 : w.heap.size ≤ W1.heap.size := by rw [← hW]; (first | omega | (simp; done) | (simp; omega))
    have hl_M_W1 : wd.heap.size < W1.heap.size := by rw [← hW]; (first | omega | (simp; done) | (simp; omega))
    have k_M_0_W1 : W1.cell? ⟨wd.heap.size, 0, none⟩ = some (.bool (decide ((p).num < 0))) := by rw [← hW]; (first | (go_simp; done) | (simp; done) | (simp [go_sem]; done) | (simp [go_sem]; done))
    have k_M_1_W1 : W1.cell? ⟨wd.heap.size, 1, none⟩ = some (.slice rm (nlen (p).num.natAbs) cm) := by rw [← hW]; (first | (go_simp; done) | (simp; done) | (simp [go_sem]; done) | (simp [go_sem]; done))
    have k_M_2_W1 : W1.cell? ⟨wd.heap.size, 2, none⟩ = some (.slice rm2 (nlen (p).den) cm2) := by rw [← hW]; (first | (go_simp; done) | (simp; done) | (simp [go_sem]; done) | (simp [go_sem]; done))
    have f_M_W1 : ∀ o, W1.frozen? ⟨wd.heap.size, o, none⟩ = false := by intro o; rw [← hW]; (first | (go_simp; done) | (simp; done) | (simp [go_sem]; done) | (simp [go_sem]; done))
    have HX_M_W1 := Lib.hid (show Bn W1 (wd.heap.size) by rw [← hW]; (repeat' (first | with_reducible exact Kp.refl _ _ | with_reducible apply Kp.alloc | with_reducible apply Kp.drew | (with_reducible refine Kp.put ?_ ?_ ?_ _; rotate_left; (focus (first | omega | (simp; done) | (simp; omega))); rotate_left) | (with_reducible refine Bn.new _ _ _ _ ?_ ?_; (focus (first | omega | (simp; done) | (simp; omega))); decide) | with_reducible apply Bn.alloc | with_reducible apply Bn.drew | with_reducible apply Bn.set)))
    have HK_W1 := Lib.hid (show Kp N wd W1 by rw [← hW]; (repeat' (first | with_reducible exact Kp.refl _ _ | with_reducible apply Kp.alloc | with_reducible apply Kp.drew | (with_reducible refine Kp.put ?_ ?_ ?_ _; rotate_left; (focus (first | omega | (simp; done) | (simp; omega))); rotate_left) | (with_reducible refine Bn.new _ _ _ _ ?_ ?_; (focus (first | omega | (simp; done) | (simp; omega))); decide) | with_reducible apply Bn.alloc | with_reducible apply Bn.drew | with_reducible apply Bn.set)))
    have HM1_W1 := Lib.hid (HM1.out.keep HK_W1.out)
    have HM2_W1 := Lib.hid (HM2.out.keep HK_W1.out)
    have HB_W1 := Lib.hid (show Below w.heap.size w W1 by rw [← hW]; (repeat' (first | with_reducible exact Below.refl _ _ | with_reducible exact HB.out | (with_reducible refine Below.alloc ?_ ?_ _; rotate_left; (focus (first | omega | (simp; done) | (simp; omega)))) | with_reducible apply Below.drew | (with_reducible refine Below.setCell ?_ ?_ _; rotate_left; (focus (first | omega | (simp; done) | (simp; omega)))))))
    have HL_W1 := Lib.hid (show Below wd.heap.size wd W1 by rw [← hW]; (repeat' (first | with_reducible exact Below.refl _ _ | (with_reducible refine Below.alloc ?_ ?_ _; rotate_left; (focus (first | omega | (simp; done) | (simp; omega)))) | with_reducible apply Below.drew | (with_reducible refine Below.setCell ?_ ?_ _; rotate_left; (focus (first | omega | (simp; done) | (simp; omega)))))))
    have LA_W1 := Lib.hid (LA.out.below HL_W1.out)
    have HT_W1 := Lib.hid (HT.out.below HL_W1.out)
    clear HL_W1
    clear hW HK_W1
    clear HM1 HM2 HB hN hs0
    have hN := hN_W1
    have HB := HB_W1
    have hs0 := hs0_W1
    have hl_M := hl_M_W1
    have f_M := f_M_W1
    have HX_M := HX_M_W1
    have k_M_0 := k_M_0_W1
    have k_M_1 := k_M_1_W1
    have k_M_2 := k_M_2_W1
    have HM1 := HM1_W1
    have HM2 := HM2_W1
    clear hN_W1 HB_W1 hs0_W1 hl_M_W1 f_M_W1 HX_M_W1 k_M_0_W1 k_M_1_W1 k_M_2_W1 HM1_W1 HM2_W1
    clear LA HT
    have LA := LA_W1
    have HT := HT_W1
    clear LA_W1 HT_W1
    have lt_LA := LA.out.lt
    refine (part_any (N := N) m t _ hN (by omega) (by omega) _ rfl).mono ?_
    rintro e we ⟨ax, dx, rfl, hn, hb⟩
    have LA_we := Lib.hid (LA.out.below hb)
    have HT_we := Lib.hid (HT.out.below hb)
    have hN_we : N ≤ we.heap.size := Nat.le_trans hN hb.size
    have hs_we : W1.heap.size ≤ we.heap.size := hb.size
    have hs0_we : w.heap.size ≤ we.heap.size := Nat.le_trans hs0 hb.size
    have hl_M_we : wd.heap.size < we.heap.size := Nat.lt_of_lt_of_le hl_M hb.size
    have k_M_0_we : we.cell? ⟨wd.heap.size, 0, none⟩ = some (.bool (decide ((p).num < 0))) := (hb.cell (p := ⟨wd.heap.size, 0, none⟩) hl_M).trans k_M_0
    have k_M_1_we : we.cell? ⟨wd.heap.size, 1, none⟩ = some (.slice rm (nlen (p).num.natAbs) cm) := (hb.cell (p := ⟨wd.heap.size, 1, none⟩) hl_M).trans k_M_1
    have k_M_2_we : we.cell? ⟨wd.heap.size, 2, none⟩ = some (.slice rm2 (nlen (p).den) cm2) := (hb.cell (p := ⟨wd.heap.size, 2, none⟩) hl_M).trans k_M_2
    have f_M_we : ∀ o, we.frozen? ⟨wd.heap.size, o, none⟩ = false := fun o => (hb.frozen (p := ⟨wd.heap.size, o, none⟩) hl_M).trans (f_M o)
    have HX_M_we := Lib.hid (HX_M.out.below hb)
    have HM1_we := Lib.hid (HM1.out.below hb)
    have HM2_we := Lib.hid (HM2.out.below hb)
    have HB_we := Lib.hid (HB.out.trans (hb.mono hs0))
    clear hb
    clear hl_M f_M HX_M k_M_0 k_M_1 k_M_2 HM1 HM2 HB hN hs0
    have hN := hN_we
    have HB := HB_we
    have hs0 := hs0_we
    have hl_M := hl_M_we
    have f_M := f_M_we
    have HX_M := HX_M_we
    have k_M_0 := k_M_0_we
    have k_M_1 := k_M_1_we
    have k_M_2 := k_M_2_we
    have HM1 := HM1_we
    have HM2 := HM2_we
    clear hN_we HB_we hs0_we hl_M_we f_M_we HX_M_we k_M_0_we k_M_1_we k_M_2_we HM1_we HM2_we
    clear LA HT
    have LA := LA_we
    have HT := HT_we
    clear LA_we HT_we
    have HQ1 := Lib.hid hn
    clear hn
    go_wp2_with fail
    refine (part_any (N := N) d 1 _ hN (by omega) (by omega) _ rfl).mono ?_
    rintro e wf ⟨ay, dy, rfl, hn, hb⟩
    have LA_wf := Lib.hid (LA.out.below hb)
    have HT_wf := Lib.hid (HT.out.below hb)
    have hN_wf : N ≤ wf.heap.size := Nat.le_trans hN hb.size
    have hs_wf : we.heap.size ≤ wf.heap.size := hb.size
    have hs0_wf : w.heap.size ≤ wf.heap.size := Nat.le_trans hs0 hb.size
    have hl_M_wf : wd.heap.size < wf.heap.size := Nat.lt_of_lt_of_le hl_M hb.size
    have k_M_0_wf : wf.cell? ⟨wd.heap.size, 0, none⟩ = some (.bool (decide ((p).num < 0))) := (hb.cell (p := ⟨wd.heap.size, 0, none⟩) hl_M).trans k_M_0
    have k_M_1_wf : wf.cell? ⟨wd.heap.size, 1, none⟩ = some (.slice rm (nlen (p).num.natAbs) cm) := (hb.cell (p := ⟨wd.heap.size, 1, none⟩) hl_M).trans k_M_1
    have k_M_2_wf : wf.cell? ⟨wd.heap.size, 2, none⟩ = some (.slice rm2 (nlen (p).den) cm2) := (hb.cell (p := ⟨wd.heap.size, 2, none⟩) hl_M).trans k_M_2
    have f_M_wf : ∀ o, wf.frozen? ⟨wd.heap.size, o, none⟩ = false := fun o => (hb.frozen (p := ⟨wd.heap.size, o, none⟩) hl_M).trans (f_M o)
    have HX_M_wf := Lib.hid (HX_M.out.below hb)
    have HM1_wf := Lib.hid (HM1.out.below hb)
    have HM2_wf := Lib.hid (HM2.out.below hb)
    have HQ1_wf := Lib.hid (HQ1.out.below hb)
    have HB_wf := Lib.hid (HB.out.trans (hb.mono hs0))
    clear hb
    clear hl_M f_M HX_M k_M_0 k_M_1 k_M_2 HM1 HM2 HQ1 HB hN hs0
    have hN := hN_wf
    have HB := HB_wf
    have hs0 := hs0_wf
    have hl_M := hl_M_wf
    have f_M := f_M_wf
    have HX_M := HX_M_wf
    have k_M_0 := k_M_0_wf
    have k_M_1 := k_M_1_wf
    have k_M_2 := k_M_2_wf
    have HM1 := HM1_wf
    have HM2 := HM2_wf
    have HQ1 := HQ1_wf
    clear hN_wf HB_wf hs0_wf hl_M_wf f_M_wf HX_M_wf k_M_0_wf k_M_1_wf k_M_2_wf HM1_wf HM2_wf HQ1_wf
    clear LA HT
    have LA := LA_wf
    have HT := HT_wf
    clear LA_wf HT_wf
    have HQ2 := Lib.hid hn
    clear hn
    go_wp2_with fail
    refine (rmul_any (N := N) _ _ _ _ _ _ _ _ _ _ _ _ _ _ 1 1 (frq m t) (frq d 1) _ hN HQ1.out HQ2.out (by omega) (by omega) p HPm.out).mono ?_
    rintro e wg ⟨ru, cu, ru2, cu2, rfl, hn, hn', hb⟩
    have LA_wg := Lib.hid (LA.out.below hb)
    have HT_wg := Lib.hid (HT.out.below hb)
    have hN_wg : N ≤ wg.heap.size := Nat.le_trans hN hb.size
    have hs_wg : wf.heap.size ≤ wg.heap.size := hb.size
    have hs0_wg : w.heap.size ≤ wg.heap.size := Nat.le_trans hs0 hb.size
    have hl_M_wg : wd.heap.size < wg.heap.size := Nat.lt_of_lt_of_le hl_M hb.size
    have k_M_0_wg : wg.cell? ⟨wd.heap.size, 0, none⟩ = some (.bool (decide ((p).num < 0))) := (hb.cell (p := ⟨wd.heap.size, 0, none⟩) hl_M).trans k_M_0
    have k_M_1_wg : wg.cell? ⟨wd.heap.size, 1, none⟩ = some (.slice rm (nlen (p).num.natAbs) cm) := (hb.cell (p := ⟨wd.heap.size, 1, none⟩) hl_M).trans k_M_1
    have k_M_2_wg : wg.cell? ⟨wd.heap.size, 2, none⟩ = some (.slice rm2 (nlen (p).den) cm2) := (hb.cell (p := ⟨wd.heap.size, 2, none⟩) hl_M).trans k_M_2
    have f_M_wg : ∀ o, wg.frozen? ⟨wd.heap.size, o, none⟩ = false := fun o => (hb.frozen (p := ⟨wd.heap.size, o, none⟩) hl_M).trans (f_M o)
    have HX_M_wg := Lib.hid (HX_M.out.below hb)
    have HM1_wg := Lib.hid (HM1.out.below hb)
    have HM2_wg := Lib.hid (HM2.out.below hb)
    have HQ1_wg := Lib.hid (HQ1.out.below hb)
    have HQ2_wg := Lib.hid (HQ2.out.below hb)
    have HB_wg := Lib.hid (HB.out.trans (hb.mono hs0))
    clear hb
    clear hl_M f_M HX_M k_M_0 k_M_1 k_M_2 HM1 HM2 HQ1 HQ2 HB hN hs0
    have hN := hN_wg
    have HB := HB_wg
    have hs0 := hs0_wg
    have hl_M := hl_M_wg
    have f_M := f_M_wg
    have HX_M := HX_M_wg
    have k_M_0 := k_M_0_wg
    have k_M_1 := k_M_1_wg
    have k_M_2 := k_M_2_wg
    have HM1 := HM1_wg
    have HM2 := HM2_wg
    have HQ1 := HQ1_wg
    have HQ2 := HQ2_wg
    clear hN_wg HB_wg hs0_wg hl_M_wg f_M_wg HX_M_wg k_M_0_wg k_M_1_wg k_M_2_wg HM1_wg HM2_wg HQ1_wg HQ2_wg
    clear LA HT
    have LA := LA_wg
    have HT := HT_wg
    clear LA_wg HT_wg
    have HU1 := Lib.hid hn
    clear hn
    have HU2 := Lib.hid hn'
    clear hn'
    clear HQ1
    clear HQ2
    go_wp2_with fail
    refine calls_name fun W2 hW => ?_
    have HL_W2 := Lib.hid (show Below wg.heap.size wg W2 by rw [← hW]; (repeat' (first | with_reducible exact Below.refl _ _ | (with_reducible refine Below.alloc ?_ ?_ _; rotate_left; (focus (first | omega | (simp; done) | (simp; omega)))) | with_reducible apply Below.drew | (with_reducible refine Below.setCell ?_ ?_ _; rotate_left; (focus (first | omega | (simp; done) | (simp; omega)))))))
    have hN_W2 : N ≤ W2.heap.size := by rw [← hW]; (first | omega | (simp; done) | (simp; omega))
    have hs_W2 : wg.heap.size ≤ W2.heap.size := by rw [← hW]; (first | omega | (simp; done) | (simp; omega))
    have hs0_W2 : w.heap.size ≤ W2.heap.size := by rw [← hW]; (first | omega | (simp; done) | (simp; omega))
    have hd_M_U : wd.heap.size < wg.heap.size := by omega
    have hl_M_W2 : wd.heap.size < W2.heap.size := by rw [← hW]; (first | omega | (simp; done) | (simp; omega))
    have k_M_0_W2 : W2.cell? ⟨wd.heap.size, 0, none⟩ = some (.bool (decide ((p).num < 0))) := (HL_W2.out.cell (p := ⟨wd.heap.size, 0, none⟩) hl_M).trans k_M_0
    have k_M_1_W2 : W2.cell? ⟨wd.heap.size, 1, none⟩ = some (.slice rm (nlen (p).num.natAbs) cm) := (HL_W2.out.cell (p := ⟨wd.heap.size, 1, none⟩) hl_M).trans k_M_1
    have k_M_2_W2 : W2.cell? ⟨wd.heap.size, 2, none⟩ = some (.slice rm2 (nlen (p).den) cm2) := (HL_W2.out.cell (p := ⟨wd.heap.size, 2, none⟩) hl_M).trans k_M_2
    have f_M_W2 : ∀ o, W2.frozen? ⟨wd.heap.size, o, none⟩ = false := fun o => (HL_W2.out.frozen (p := ⟨wd.heap.size, o, none⟩) hl_M).trans (f_M o)
    have HX_M_W2 := Lib.hid (show Bn W2 (wd.heap.size) by rw [← hW]; (repeat' (first | with_reducible exact Kp.refl _ _ | with_reducible exact HX_M.out | with_reducible apply Kp.alloc | with_reducible apply Kp.drew | (with_reducible refine Kp.put ?_ ?_ ?_ _; rotate_left; (focus (first | omega | (simp; done) | (simp; omega))); rotate_left) | (with_reducible refine Bn.new _ _ _ _ ?_ ?_; (focus (first | omega | (simp; done) | (simp; omega))); decide) | with_reducible apply Bn.alloc | with_reducible apply Bn.drew | with_reducible apply Bn.set)))
    have hl_U_W2 : wg.heap.size < W2.heap.size := by rw [← hW]; (first | omega | (simp; done) | (simp; omega))
    have k_U_0_W2 : W2.cell? ⟨wg.heap.size, 0, none⟩ = some (.bool (decide ((p).num < 0))) := by rw [← hW]; (first | (go_simp; done) | (simp; done) | (simp [go_sem]; done) | (simp [go_sem, k_M_0, k_M_1, k_M_2, f_M, hl_M]; done))
    have k_U_1_W2 : W2.cell? ⟨wg.heap.size, 1, none⟩ = some (.slice ru (nlen (p).num.natAbs) cu) := by rw [← hW]; (first | (go_simp; done) | (simp; done) | (simp [go_sem]; done) | (simp [go_sem, k_M_0, k_M_1, k_M_2, f_M, hl_M]; done))
    have k_U_2_W2 : W2.cell? ⟨wg.heap.size, 2, none⟩ = some (.slice ru2 (nlen (p).den) cu2) := by rw [← hW]; (first | (go_simp; done) | (simp; done) | (simp [go_sem]; done) | (simp [go_sem, k_M_0, k_M_1, k_M_2, f_M, hl_M]; done))
    have f_U_W2 : ∀ o, W2.frozen? ⟨wg.heap.size, o, none⟩ = false := by intro o; rw [← hW]; (first | (go_simp; done) | (simp; done) | (simp [go_sem]; done) | (simp [go_sem, k_M_0, k_M_1, k_M_2, f_M, hl_M]; done))
    have HX_U_W2 := Lib.hid (show Bn W2 (wg.heap.size) by rw [← hW]; (repeat' (first | with_reducible exact Kp.refl _ _ | with_reducible exact HX_M.out | with_reducible apply Kp.alloc | with_reducible apply Kp.drew | (with_reducible refine Kp.put ?_ ?_ ?_ _; rotate_left; (focus (first | omega | (simp; done) | (simp; omega))); rotate_left) | (with_reducible refine Bn.new _ _ _ _ ?_ ?_; (focus (first | omega | (simp; done) | (simp; omega))); decide) | with_reducible apply Bn.alloc | with_reducible apply Bn.drew | with_reducible apply Bn.set)))
    have HK_W2 := Lib.hid (show Kp N wg W2 by rw [← hW]; (repeat' (first | with_reducible exact Kp.refl _ _ | with_reducible exact HX_M.out | with_reducible apply Kp.alloc | with_reducible apply Kp.drew | (with_reducible refine Kp.put ?_ ?_ ?_ _; rotate_left; (focus (first | omega | (simp; done) | (simp; omega))); rotate_left) | (with_reducible refine Bn.new _ _ _ _ ?_ ?_; (focus (first | omega | (simp; done) | (simp; omega))); decide) | with_reducible apply Bn.alloc | with_reducible apply Bn.drew | with_reducible apply Bn.set)))
    have HM1_W2 := Lib.hid (HM1.out.keep HK_W2.out)
    have HM2_W2 := Lib.hid (HM2.out.keep HK_W2.out)
    have HU1_W2 := Lib.hid (HU1.out.keep HK_W2.out)
    have HU2_W2 := Lib.hid (HU2.out.keep HK_W2.out)
    have HB_W2 := Lib.hid (show Below w.heap.size w W2 by rw [← hW]; (repeat' (first | with_reducible exact Below.refl _ _ | with_reducible exact HB.out | (with_reducible refine Below.alloc ?_ ?_ _; rotate_left; (focus (first | omega | (simp; done) | (simp; omega)))) | with_reducible apply Below.drew | (with_reducible refine Below.setCell ?_ ?_ _; rotate_left; (focus (first | omega | (simp; done) | (simp; omega)))))))
    have LA_W2 := Lib.hid (LA.out.below HL_W2.out)
    have HT_W2 := Lib.hid (HT.out.below HL_W2.out)
    clear HL_W2
    clear hW HK_W2
    clear hl_M f_M HX_M k_M_0 k_M_1 k_M_2 HM1 HM2 HU1 HU2 HB hN hs0
    have hN := hN_W2
    have HB := HB_W2
    have hs0 := hs0_W2
    have hl_M := hl_M_W2
    have f_M := f_M_W2
    have HX_M := HX_M_W2
    have k_M_0 := k_M_0_W2
    have k_M_1 := k_M_1_W2
    have k_M_2 := k_M_2_W2
    have hl_U := hl_U_W2
    have f_U := f_U_W2
    have HX_U := HX_U_W2
    have k_U_0 := k_U_0_W2
    have k_U_1 := k_U_1_W2
    have k_U_2 := k_U_2_W2
    have HM1 := HM1_W2
    have HM2 := HM2_W2
    have HU1 := HU1_W2
    have HU2 := HU2_W2
    clear hN_W2 HB_W2 hs0_W2 hl_M_W2 f_M_W2 HX_M_W2 k_M_0_W2 k_M_1_W2 k_M_2_W2 hl_U_W2 f_U_W2 HX_U_W2 k_U_0_W2 k_U_1_W2 k_U_2_W2 HM1_W2 HM2_W2 HU1_W2 HU2_W2
    clear LA HT
    have LA := LA_W2
    have HT := HT_W2
    clear LA_W2 HT_W2
    have lt_LA := LA.out.lt
    refine (Valid_any (N := N) _ n _ (hyQ t m d) 14 _ hN (LA.out.rs (by unfold maxLen; omega) 14 (fun i _ => hyQ_len t m d i (by omega) hm)) (by omega) true HV.out).mono ?_
    rintro e wh ⟨rfl, hb⟩
    have LA_wh := Lib.hid (LA.out.below hb)
    have HT_wh := Lib.hid (HT.out.below hb)
    have hN_wh : N ≤ wh.heap.size := Nat.le_trans hN hb.size
    have hs_wh : W2.heap.size ≤ wh.heap.size := hb.size
    have hs0_wh : w.heap.size ≤ wh.heap.size := Nat.le_trans hs0 hb.size
    have hl_M_wh : wd.heap.size < wh.heap.size := Nat.lt_of_lt_of_le hl_M hb.size
    have k_M_0_wh : wh.cell? ⟨wd.heap.size, 0, none⟩ = some (.bool (decide ((p).num < 0))) := (hb.cell (p := ⟨wd.heap.size, 0, none⟩) hl_M).trans k_M_0
    have k_M_1_wh : wh.cell? ⟨wd.heap.size, 1, none⟩ = some (.slice rm (nlen (p).num.natAbs) cm) := (hb.cell (p := ⟨wd.heap.size, 1, none⟩) hl_M).trans k_M_1
    have k_M_2_wh : wh.cell? ⟨wd.heap.size, 2, none⟩ = some (.slice rm2 (nlen (p).den) cm2) := (hb.cell (p := ⟨wd.heap.size, 2, none⟩) hl_M).trans k_M_2
    have f_M_wh : ∀ o, wh.frozen? ⟨wd.heap.size, o, none⟩ = false := fun o => (hb.frozen (p := ⟨wd.heap.size, o, none⟩) hl_M).trans (f_M o)
    have HX_M_wh := Lib.hid (HX_M.out.below hb)
    have hl_U_wh : wg.heap.size < wh.heap.size := Nat.lt_of_lt_of_le hl_U hb.size
    have k_U_0_wh : wh.cell? ⟨wg.heap.size, 0, none⟩ = some (.bool (decide ((p).num < 0))) := (hb.cell (p := ⟨wg.heap.size, 0, none⟩) hl_U).trans k_U_0
    have k_U_1_wh : wh.cell? ⟨wg.heap.size, 1, none⟩ = some (.slice ru (nlen (p).num.natAbs) cu) := (hb.cell (p := ⟨wg.heap.size, 1, none⟩) hl_U).trans k_U_1
    have k_U_2_wh : wh.cell? ⟨wg.heap.size, 2, none⟩ = some (.slice ru2 (nlen (p).den) cu2) := (hb.cell (p := ⟨wg.heap.size, 2, none⟩) hl_U).trans k_U_2
    have f_U_wh : ∀ o, wh.frozen? ⟨wg.heap.size, o, none⟩ = false := fun o => (hb.frozen (p := ⟨wg.heap.size, o, none⟩) hl_U).trans (f_U o)
    have HX_U_wh := Lib.hid (HX_U.out.below hb)
    have HM1_wh := Lib.hid (HM1.out.below hb)
    have HM2_wh := Lib.hid (HM2.out.below hb)
    have HU1_wh := Lib.hid (HU1.out.below hb)
    have HU2_wh := Lib.hid (HU2.out.below hb)
    have HB_wh := Lib.hid (HB.out.trans (hb.mono hs0))
    clear hb
    clear hl_M f_M HX_M k_M_0 k_M_1 k_M_2 hl_U f_U HX_U k_U_0 k_U_1 k_U_2 HM1 HM2 HU1 HU2 HB hN hs0
    have hN := hN_wh
    have HB := HB_wh
    have hs0 := hs0_wh
    have hl_M := hl_M_wh
    have f_M := f_M_wh
    have HX_M := HX_M_wh
    have k_M_0 := k_M_0_wh
    have k_M_1 := k_M_1_wh
    have k_M_2 := k_M_2_wh
    have hl_U := hl_U_wh
    have f_U := f_U_wh
    have HX_U := HX_U_wh
    have k_U_0 := k_U_0_wh
    have k_U_1 := k_U_1_wh
    have k_U_2 := k_U_2_wh
    have HM1 := HM1_wh
    have HM2 := HM2_wh
    have HU1 := HU1_wh
    have HU2 := HU2_wh
    clear hN_wh HB_wh hs0_wh hl_M_wh f_M_wh HX_M_wh k_M_0_wh k_M_1_wh k_M_2_wh hl_U_wh f_U_wh HX_U_wh k_U_0_wh k_U_1_wh k_U_2_wh HM1_wh HM2_wh HU1_wh HU2_wh
    clear LA HT
    have LA := LA_wh
    have HT := HT_wh
    clear LA_wh HT_wh
    clear LA
    go_wp2_with fail
    refine (rcmp_any (N := N) _ _ _ _ _ _ _ _ _ _ _ _ _ _ 2 2 p p _ hN (Rt.of_norm HM1.out HM2.out 2 HZ.out) (Rt.of_norm HU1.out HU2.out 2 HZ.out) (by omega) (by omega)).mono ?_
    rw [cmpQ_self]
    rintro e wi ⟨rfl, hb⟩
    have HT_wi := Lib.hid (HT.out.below hb)
    have hN_wi : N ≤ wi.heap.size := Nat.le_trans hN hb.size
    have hs_wi : wh.heap.size ≤ wi.heap.size := hb.size
    have hs0_wi : w.heap.size ≤ wi.heap.size := Nat.le_trans hs0 hb.size
    have hl_M_wi : wd.heap.size < wi.heap.size := Nat.lt_of_lt_of_le hl_M hb.size
    have k_M_0_wi : wi.cell? ⟨wd.heap.size, 0, none⟩ = some (.bool (decide ((p).num < 0))) := (hb.cell (p := ⟨wd.heap.size, 0, none⟩) hl_M).trans k_M_0
    have k_M_1_wi : wi.cell? ⟨wd.heap.size, 1, none⟩ = some (.slice rm (nlen (p).num.natAbs) cm) := (hb.cell (p := ⟨wd.heap.size, 1, none⟩) hl_M).trans k_M_1
    have k_M_2_wi : wi.cell? ⟨wd.heap.size, 2, none⟩ = some (.slice rm2 (nlen (p).den) cm2) := (hb.cell (p := ⟨wd.heap.size, 2, none⟩) hl_M).trans k_M_2
    have f_M_wi : ∀ o, wi.frozen? ⟨wd.heap.size, o, none⟩ = false := fun o => (hb.frozen (p := ⟨wd.heap.size, o, none⟩) hl_M).trans (f_M o)
    have HX_M_wi := Lib.hid (HX_M.out.below hb)
    have hl_U_wi : wg.heap.size < wi.heap.size := Nat.lt_of_lt_of_le hl_U hb.size
    have k_U_0_wi : wi.cell? ⟨wg.heap.size, 0, none⟩ = some (.bool (decide ((p).num < 0))) := (hb.cell (p := ⟨wg.heap.size, 0, none⟩) hl_U).trans k_U_0
    have k_U_1_wi : wi.cell? ⟨wg.heap.size, 1, none⟩ = some (.slice ru (nlen (p).num.natAbs) cu) := (hb.cell (p := ⟨wg.heap.size, 1, none⟩) hl_U).trans k_U_1
    have k_U_2_wi : wi.cell? ⟨wg.heap.size, 2, none⟩ = some (.slice ru2 (nlen (p).den) cu2) := (hb.cell (p := ⟨wg.heap.size, 2, none⟩) hl_U).trans k_U_2
    have f_U_wi : ∀ o, wi.frozen? ⟨wg.heap.size, o, none⟩ = false := fun o => (hb.frozen (p := ⟨wg.heap.size, o, none⟩) hl_U).trans (f_U o)
    have HX_U_wi := Lib.hid (HX_U.out.below hb)
    have HM1_wi := Lib.hid (HM1.out.below hb)
    have HM2_wi := Lib.hid (HM2.out.below hb)
    have HU1_wi := Lib.hid (HU1.out.below hb)
    have HU2_wi := Lib.hid (HU2.out.below hb)
    have HB_wi := Lib.hid (HB.out.trans (hb.mono hs0))
    clear hb
    clear hl_M f_M HX_M k_M_0 k_M_1 k_M_2 hl_U f_U HX_U k_U_0 k_U_1 k_U_2 HM1 HM2 HU1 HU2 HB hN hs0
    have hN := hN_wi
    have HB := HB_wi
    have hs0 := hs0_wi
    have hl_M := hl_M_wi
    have f_M := f_M_wi
    have HX_M := HX_M_wi
    have k_M_0 := k_M_0_wi
    have k_M_1 := k_M_1_wi
    have k_M_2 := k_M_2_wi
    have hl_U := hl_U_wi
    have f_U := f_U_wi
    have HX_U := HX_U_wi
    have k_U_0 := k_U_0_wi
    have k_U_1 := k_U_1_wi
    have k_U_2 := k_U_2_wi
    have HM1 := HM1_wi
    have HM2 := HM2_wi
    have HU1 := HU1_wi
    have HU2 := HU2_wi
    clear hN_wi HB_wi hs0_wi hl_M_wi f_M_wi HX_M_wi k_M_0_wi k_M_1_wi k_M_2_wi hl_U_wi f_U_wi HX_U_wi k_U_0_wi k_U_1_wi k_U_2_wi HM1_wi HM2_wi HU1_wi HU2_wi
    clear HT
    have HT := HT_wi
    clear HT_wi
    go_wp2_with fail
    refine (awake_any (N := N) _ hN HT.out).mono ?_
    rintro e wj ⟨rfl, hb⟩
    have HT_wj := Lib.hid (HT.out.below hb)
    have hN_wj : N ≤ wj.heap.size := Nat.le_trans hN hb.size
    have hs_wj : wi.heap.size ≤ wj.heap.size := hb.size
    have hs0_wj : w.heap.size ≤ wj.heap.size := Nat.le_trans hs0 hb.size
    have hl_M_wj : wd.heap.size < wj.heap.size := Nat.lt_of_lt_of_le hl_M hb.size
    have k_M_0_wj : wj.cell? ⟨wd.heap.size, 0, none⟩ = some (.bool (decide ((p).num < 0))) := (hb.cell (p := ⟨wd.heap.size, 0, none⟩) hl_M).trans k_M_0
    have k_M_1_wj : wj.cell? ⟨wd.heap.size, 1, none⟩ = some (.slice rm (nlen (p).num.natAbs) cm) := (hb.cell (p := ⟨wd.heap.size, 1, none⟩) hl_M).trans k_M_1
    have k_M_2_wj : wj.cell? ⟨wd.heap.size, 2, none⟩ = some (.slice rm2 (nlen (p).den) cm2) := (hb.cell (p := ⟨wd.heap.size, 2, none⟩) hl_M).trans k_M_2
    have f_M_wj : ∀ o, wj.frozen? ⟨wd.heap.size, o, none⟩ = false := fun o => (hb.frozen (p := ⟨wd.heap.size, o, none⟩) hl_M).trans (f_M o)
    have HX_M_wj := Lib.hid (HX_M.out.below hb)
    have hl_U_wj : wg.heap.size < wj.heap.size := Nat.lt_of_lt_of_le hl_U hb.size
    have k_U_0_wj : wj.cell? ⟨wg.heap.size, 0, none⟩ = some (.bool (decide ((p).num < 0))) := (hb.cell (p := ⟨wg.heap.size, 0, none⟩) hl_U).trans k_U_0
    have k_U_1_wj : wj.cell? ⟨wg.heap.size, 1, none⟩ = some (.slice ru (nlen (p).num.natAbs) cu) := (hb.cell (p := ⟨wg.heap.size, 1, none⟩) hl_U).trans k_U_1
    have k_U_2_wj : wj.cell? ⟨wg.heap.size, 2, none⟩ = some (.slice ru2 (nlen (p).den) cu2) := (hb.cell (p := ⟨wg.heap.size, 2, none⟩) hl_U).trans k_U_2
    have f_U_wj : ∀ o, wj.frozen? ⟨wg.heap.size, o, none⟩ = false := fun o => (hb.frozen (p := ⟨wg.heap.size, o, none⟩) hl_U).trans (f_U o)
    have HX_U_wj := Lib.hid (HX_U.out.below hb)
    have HM1_wj := Lib.hid (HM1.out.below hb)
    have HM2_wj := Lib.hid (HM2.out.below hb)
    have HU1_wj := Lib.hid (HU1.out.below hb)
    have HU2_wj := Lib.hid (HU2.out.below hb)
    have HB_wj := Lib.hid (HB.out.trans (hb.mono hs0))
    clear hb
    clear hl_M f_M HX_M k_M_0 k_M_1 k_M_2 hl_U f_U HX_U k_U_0 k_U_1 k_U_2 HM1 HM2 HU1 HU2 HB hN hs0
    have hN := hN_wj
    have HB := HB_wj
    have hs0 := hs0_wj
    have hl_M := hl_M_wj
    have f_M := f_M_wj
    have HX_M := HX_M_wj
    have k_M_0 := k_M_0_wj
    have k_M_1 := k_M_1_wj
    have k_M_2 := k_M_2_wj
    have hl_U := hl_U_wj
    have f_U := f_U_wj
    have HX_U := HX_U_wj
    have k_U_0 := k_U_0_wj
    have k_U_1 := k_U_1_wj
    have k_U_2 := k_U_2_wj
    have HM1 := HM1_wj
    have HM2 := HM2_wj
    have HU1 := HU1_wj
    have HU2 := HU2_wj
    clear hN_wj HB_wj hs0_wj hl_M_wj f_M_wj HX_M_wj k_M_0_wj k_M_1_wj k_M_2_wj hl_U_wj f_U_wj HX_U_wj k_U_0_wj k_U_1_wj k_U_2_wj HM1_wj HM2_wj HU1_wj HU2_wj
    clear HT
    have HT := HT_wj
    clear HT_wj
    go_wp2_with fail
    go_ret
    exact ⟨rfl, HB.out⟩

theorem exc_all (t m d : Nat) (w : World) (htab : TabW w) (t1 : t ≤ 255) (m1 : m ≤ 255) (d1 : d ≤ 255) :
    Calls Tryd.prog 6 #[.int .u8 t, .int .u8 m, .int .u8 d] w fun e w' => e = .returned (.bool true) ∧ Below w.heap.size w w' := by
  by_cases h : 121 ≤ t ∨ t < m ∨ t < d
  · exact exc_no (N := w.heap.size) t m d w (Nat.le_refl _) htab t1 m1 d1 h
  · exact exc_ok (N := w.heap.size) t m d w (Nat.le_refl _) htab (by omega) (by omega) (by omega)

end Go.Proofs.YtbjgnpgachdlaaaDoor
