/- DriftSymmetric returns true: the walk. No condition but that the table of powers of ten lies in memory. -/
import Derived.Test.YtnillajhhimeiaaDoorJoI
namespace Go.Proofs.YtnillajhhimeiaaDoor
open Go.RowKit

theorem sgn_pos1 (p : Rat) (h : 0 < p) : decide (p.num.sign ≤ 0) = false := by
  have h0 : 0 ≤ p.num := Rat.num_nonneg.2 (Rat.le_of_lt h)
  have h2 : p.num ≠ 0 := fun e => by rw [Rat.num_eq_zero] at e; subst e; exact Rat.lt_irrefl h
  have h1 : 0 < p.num := by omega
  rw [Int.sign_eq_one_of_pos h1]; rfl
theorem cmp_gt1 (p : Rat) (h : p ≤ 1) : decide (0 < cmpQ p (frq 1 1)) = false := by
  rw [show frq 1 1 = 1 by decide +kernel]
  unfold cmpQ
  by_cases h1 : p < 1
  · rw [if_pos h1]; rfl
  · rw [if_neg h1, if_neg (by grind)]; rfl
theorem fish_rsz (a b c d : Nat) (ha : a ≤ 30) (hb : b ≤ 30) (hc : c ≤ 30) (hd : d ≤ 30) : rsz (fishQ a b c d) ≤ 14 := fish_len a b c d (by omega)
theorem sign_len (n k : Nat) (h : n ≤ 120) (_hk : k ≤ n) : rsz (signQ n k) ≤ 122 := by
  have e : signQ n k = frq (sN (fun i => if siQ n i ≤ siQ n k then chs n i else 0) (n + 1)) (2 ^ n) := by
    rw [← sQ_frq]
    unfold signQ bothQ
    refine sQ_congr (fun i _ => ?_)
    by_cases h1 : siQ n i ≤ siQ n k
    · rw [if_pos h1, if_pos h1]; rfl
    · rw [if_neg h1, if_neg h1, frq_zero]
  have h2 : ∀ m, sN (fun i => if siQ n i ≤ siQ n k then chs n i else 0) m ≤ sN (chs n) m := by
    intro m
    induction m with
    | zero => exact Nat.le_refl _
    | succ m ih =>
      simp only [sN]
      refine Nat.add_le_add ih ?_
      split
      · exact Nat.le_refl _
      · exact Nat.zero_le _
  have h3 := h2 (n + 1)
  rw [chs_total] at h3
  have h4 := nlen_mono h3
  have h5 := nlen_pow 2 1 (nlen_small (by decide)) n
  rw [e]
  exact frq_len _ _ _ (by omega) (by omega) (by omega)

set_option maxHeartbeats 8000000 in
set_option maxRecDepth 100000 in
theorem dsym_yy {N : Nat} (a b c d : Nat) (ha : a ≤ 30) (hb : b ≤ 30) (hc : c ≤ 30) (hd : d ≤ 30) (x y : Nat) (hx : x ≤ 60) (hy : y ≤ 60) (w : World) (hN : N ≤ w.heap.size) (htab : TabW w) :
    Calls Tryd.prog 5 #[.agg #[.int .i64 ((a : Nat) : Int), .int .i64 ((b : Nat) : Int), .int .i64 ((c : Nat) : Int), .int .i64 ((d : Nat) : Int)], .int .i64 ((x : Nat) : Int), .int .i64 ((y : Nat) : Int)] w fun e w' => e = .returned (.bool true) ∧ Below w.heap.size w w' := by
  obtain ⟨p, hp⟩ : ∃ p, fishQ a b c d = p := ⟨_, rfl⟩
  have hrg : 0 < p ∧ p ≤ 1 := by rw [← hp]; exact fish_range a b c d (by omega)
  obtain ⟨σx, hσx⟩ : ∃ σ, (p).num.sign = σ := ⟨_, rfl⟩
  obtain ⟨κx, hκx⟩ : ∃ κ, cmpQ p (frq 1 1) = κ := ⟨_, rfl⟩
  have dsx : decide (σx ≤ 0) = false := by rw [← hσx]; exact sgn_pos1 _ (hrg).1
  have dkx : decide (0 < κx) = false := by rw [← hκx]; exact cmp_gt1 _ (hrg).2
  have HSGx := Lib.hid hσx
  have HKx := Lib.hid hκx
  have HZx := Lib.hid (show rsz p ≤ 122 from by rw [← hp]; exact Nat.le_trans (fish_rsz a b c d ha hb hc hd) (by omega))
  clear hσx hκx
  have HP := Lib.hid hp
  have HPg := Lib.hid (show fishQ c d a b = p by rw [fish_groups]; exact hp)
  have HPs := Lib.hid (show fishQ b a d c = p by rw [fish_sides]; exact hp)
  clear hp hrg
  obtain ⟨p9, hp9⟩ : ∃ p, signQ (x + y) x = p := ⟨_, rfl⟩
  have hrg9 : 0 < p9 ∧ p9 ≤ 1 := by rw [← hp9]; exact sign_range (x + y) x (by omega) (by omega)
  obtain ⟨σy, hσy⟩ : ∃ σ, (p9).num.sign = σ := ⟨_, rfl⟩
  obtain ⟨κy, hκy⟩ : ∃ κ, cmpQ p9 (frq 1 1) = κ := ⟨_, rfl⟩
  have dsy : decide (σy ≤ 0) = false := by rw [← hσy]; exact sgn_pos1 _ (hrg9).1
  have dky : decide (0 < κy) = false := by rw [← hκy]; exact cmp_gt1 _ (hrg9).2
  have HSGy := Lib.hid hσy
  have HKy := Lib.hid hκy
  have HZy := Lib.hid (show rsz p9 ≤ 122 from by rw [← hp9]; exact sign_len (x + y) x (by omega) (by omega))
  clear hσy hκy
  have HP9' := Lib.hid (show signQ (y + x) y = p9 by rw [← hp9, Nat.add_comm y x, ← sign_sym (x + y) x (by omega), show x + y - x = y by omega])
  have HP9 := Lib.hid hp9
  clear hp9
  clear hrg9
  have HTw := Lib.hid htab
  clear htab
  have hN0 := hN
  have HB := Lib.hid (Below.refl w.heap.size w)
  go_enter Tryd.func5, Tryd.ntmps5
  go_wp2_with fail
  refine calls_name fun W0 hW => ?_
  have hs_W0 : w.heap.size ≤ W0.heap.size := by rw [← hW]; (first | omega | (simp; done) | (simp; omega))
  have k_T_0 : W0.cell? ⟨w.heap.size, 0, none⟩ = some (.int .i64 ((a : Nat) : Int)) := by rw [← hW]; (first | (go_simp; done) | (simp; done) | (simp [go_sem]; done) | (simp [go_sem]; done))
  have k_T_1 : W0.cell? ⟨w.heap.size, 1, none⟩ = some (.int .i64 ((b : Nat) : Int)) := by rw [← hW]; (first | (go_simp; done) | (simp; done) | (simp [go_sem]; done) | (simp [go_sem]; done))
  have k_T_2 : W0.cell? ⟨w.heap.size, 2, none⟩ = some (.int .i64 ((c : Nat) : Int)) := by rw [← hW]; (first | (go_simp; done) | (simp; done) | (simp [go_sem]; done) | (simp [go_sem]; done))
  have k_T_3 : W0.cell? ⟨w.heap.size, 3, none⟩ = some (.int .i64 ((d : Nat) : Int)) := by rw [← hW]; (first | (go_simp; done) | (simp; done) | (simp [go_sem]; done) | (simp [go_sem]; done))
  have f_T : ∀ o, W0.frozen? ⟨w.heap.size, o, none⟩ = false := by intro o; rw [← hW]; (first | (go_simp; done) | (simp; done) | (simp [go_sem]; done) | (simp [go_sem]; done))
  have HX_T := Lib.hid (show Bn W0 (w.heap.size) by rw [← hW]; exact KpA)
  replace HB := Lib.hid (show Below w.heap.size w W0 by rw [← hW]; exact BlA)
  replace hN : N ≤ W0.heap.size := by rw [← hW]; (first | omega | (simp; done) | (simp; omega))
  have hs0 : w.heap.size ≤ W0.heap.size := by rw [← hW]; (first | omega | (simp; done) | (simp; omega))
  have hl_T : w.heap.size < W0.heap.size := by rw [← hW]; (first | omega | (simp; done) | (simp; omega))
  clear hW
  refine (fisher_ok (N := N) a b c d _ hN ha hb hc hd p HP.out).mono ?_
  rintro e wa ⟨rp, cp, rp2, cp2, rfl, hn, hn', hb⟩
  have hs_wa : W0.heap.size ≤ wa.heap.size := hb.size
  replace k_T_0 : wa.cell? ⟨w.heap.size, 0, none⟩ = some (.int .i64 ((a : Nat) : Int)) := (hb.cell (p := ⟨w.heap.size, 0, none⟩) hl_T).trans k_T_0
  replace k_T_1 : wa.cell? ⟨w.heap.size, 1, none⟩ = some (.int .i64 ((b : Nat) : Int)) := (hb.cell (p := ⟨w.heap.size, 1, none⟩) hl_T).trans k_T_1
  replace k_T_2 : wa.cell? ⟨w.heap.size, 2, none⟩ = some (.int .i64 ((c : Nat) : Int)) := (hb.cell (p := ⟨w.heap.size, 2, none⟩) hl_T).trans k_T_2
  replace k_T_3 : wa.cell? ⟨w.heap.size, 3, none⟩ = some (.int .i64 ((d : Nat) : Int)) := (hb.cell (p := ⟨w.heap.size, 3, none⟩) hl_T).trans k_T_3
  replace f_T : ∀ o, wa.frozen? ⟨w.heap.size, o, none⟩ = false := fun o => (hb.frozen (p := ⟨w.heap.size, o, none⟩) hl_T).trans (f_T o)
  replace HX_T := Lib.hid (HX_T.out.below hb)
  replace HB := Lib.hid (HB.out.trans (hb.mono hs0))
  replace hN : N ≤ wa.heap.size := Nat.le_trans hN hb.size
  replace hs0 : w.heap.size ≤ wa.heap.size := Nat.le_trans hs0 hb.size
  replace hl_T : w.heap.size < wa.heap.size := Nat.lt_of_lt_of_le hl_T hb.size
  clear hb
  have HP1 := Lib.hid hn
  clear hn
  have HP2 := Lib.hid hn'
  clear hn'
  go_wp2_with fail
  refine calls_name fun W1 hW => ?_
  have HL_W1 := Lib.hid (show Below wa.heap.size wa W1 by rw [← hW]; exact BlA)
  have hs_W1 : wa.heap.size ≤ W1.heap.size := by rw [← hW]; (first | omega | (simp; done) | (simp; omega))
  have hd_T_P : w.heap.size < wa.heap.size := by omega
  have HK_W1 := Lib.hid (show Kp N wa W1 by rw [← hW]; exact KpA)
  replace k_T_0 : W1.cell? ⟨w.heap.size, 0, none⟩ = some (.int .i64 ((a : Nat) : Int)) := (HL_W1.out.cell (p := ⟨w.heap.size, 0, none⟩) hl_T).trans k_T_0
  replace k_T_1 : W1.cell? ⟨w.heap.size, 1, none⟩ = some (.int .i64 ((b : Nat) : Int)) := (HL_W1.out.cell (p := ⟨w.heap.size, 1, none⟩) hl_T).trans k_T_1
  replace k_T_2 : W1.cell? ⟨w.heap.size, 2, none⟩ = some (.int .i64 ((c : Nat) : Int)) := (HL_W1.out.cell (p := ⟨w.heap.size, 2, none⟩) hl_T).trans k_T_2
  replace k_T_3 : W1.cell? ⟨w.heap.size, 3, none⟩ = some (.int .i64 ((d : Nat) : Int)) := (HL_W1.out.cell (p := ⟨w.heap.size, 3, none⟩) hl_T).trans k_T_3
  replace f_T : ∀ o, W1.frozen? ⟨w.heap.size, o, none⟩ = false := fun o => (HL_W1.out.frozen (p := ⟨w.heap.size, o, none⟩) hl_T).trans (f_T o)
  replace HX_T := Lib.hid (show Bn W1 (w.heap.size) by rw [← hW]; exact KpA)
  have k_P_0 : W1.cell? ⟨wa.heap.size, 0, none⟩ = some (.bool (decide ((p).num < 0))) := by rw [← hW]; (first | (go_simp; done) | (simp; done) | (simp [go_sem]; done) | (simp [go_sem, k_T_0, k_T_1, k_T_2, k_T_3, f_T, hl_T]; done))
  have k_P_1 : W1.cell? ⟨wa.heap.size, 1, none⟩ = some (.slice rp (nlen (p).num.natAbs) cp) := by rw [← hW]; (first | (go_simp; done) | (simp; done) | (simp [go_sem]; done) | (simp [go_sem, k_T_0, k_T_1, k_T_2, k_T_3, f_T, hl_T]; done))
  have k_P_2 : W1.cell? ⟨wa.heap.size, 2, none⟩ = some (.slice rp2 (nlen (p).den) cp2) := by rw [← hW]; (first | (go_simp; done) | (simp; done) | (simp [go_sem]; done) | (simp [go_sem, k_T_0, k_T_1, k_T_2, k_T_3, f_T, hl_T]; done))
  have f_P : ∀ o, W1.frozen? ⟨wa.heap.size, o, none⟩ = false := by intro o; rw [← hW]; (first | (go_simp; done) | (simp; done) | (simp [go_sem]; done) | (simp [go_sem, k_T_0, k_T_1, k_T_2, k_T_3, f_T, hl_T]; done))
  have HX_P := Lib.hid (show Bn W1 (wa.heap.size) by rw [← hW]; exact KpA)
  replace HP1 := Lib.hid (HP1.out.keep HK_W1.out)
  replace HP2 := Lib.hid (HP2.out.keep HK_W1.out)
  replace HB := Lib.hid (show Below w.heap.size w W1 by rw [← hW]; exact BlA)
  replace hN : N ≤ W1.heap.size := by rw [← hW]; (first | omega | (simp; done) | (simp; omega))
  replace hs0 : w.heap.size ≤ W1.heap.size := by rw [← hW]; (first | omega | (simp; done) | (simp; omega))
  replace hl_T : w.heap.size < W1.heap.size := by rw [← hW]; (first | omega | (simp; done) | (simp; omega))
  have hl_P : wa.heap.size < W1.heap.size := by rw [← hW]; (first | omega | (simp; done) | (simp; omega))
  clear HL_W1
  clear hW HK_W1
  refine (fisher_ok (N := N) c d a b _ hN hc hd ha hb p HPg.out).mono ?_
  rintro e wb ⟨rq, cq, rq2, cq2, rfl, hn, hn', hb⟩
  have hs_wb : W1.heap.size ≤ wb.heap.size := hb.size
  replace k_T_0 : wb.cell? ⟨w.heap.size, 0, none⟩ = some (.int .i64 ((a : Nat) : Int)) := (hb.cell (p := ⟨w.heap.size, 0, none⟩) hl_T).trans k_T_0
  replace k_T_1 : wb.cell? ⟨w.heap.size, 1, none⟩ = some (.int .i64 ((b : Nat) : Int)) := (hb.cell (p := ⟨w.heap.size, 1, none⟩) hl_T).trans k_T_1
  replace k_T_2 : wb.cell? ⟨w.heap.size, 2, none⟩ = some (.int .i64 ((c : Nat) : Int)) := (hb.cell (p := ⟨w.heap.size, 2, none⟩) hl_T).trans k_T_2
  replace k_T_3 : wb.cell? ⟨w.heap.size, 3, none⟩ = some (.int .i64 ((d : Nat) : Int)) := (hb.cell (p := ⟨w.heap.size, 3, none⟩) hl_T).trans k_T_3
  replace f_T : ∀ o, wb.frozen? ⟨w.heap.size, o, none⟩ = false := fun o => (hb.frozen (p := ⟨w.heap.size, o, none⟩) hl_T).trans (f_T o)
  replace HX_T := Lib.hid (HX_T.out.below hb)
  replace k_P_0 : wb.cell? ⟨wa.heap.size, 0, none⟩ = some (.bool (decide ((p).num < 0))) := (hb.cell (p := ⟨wa.heap.size, 0, none⟩) hl_P).trans k_P_0
  replace k_P_1 : wb.cell? ⟨wa.heap.size, 1, none⟩ = some (.slice rp (nlen (p).num.natAbs) cp) := (hb.cell (p := ⟨wa.heap.size, 1, none⟩) hl_P).trans k_P_1
  replace k_P_2 : wb.cell? ⟨wa.heap.size, 2, none⟩ = some (.slice rp2 (nlen (p).den) cp2) := (hb.cell (p := ⟨wa.heap.size, 2, none⟩) hl_P).trans k_P_2
  replace f_P : ∀ o, wb.frozen? ⟨wa.heap.size, o, none⟩ = false := fun o => (hb.frozen (p := ⟨wa.heap.size, o, none⟩) hl_P).trans (f_P o)
  replace HX_P := Lib.hid (HX_P.out.below hb)
  replace HP1 := Lib.hid (HP1.out.below hb)
  replace HP2 := Lib.hid (HP2.out.below hb)
  replace HB := Lib.hid (HB.out.trans (hb.mono hs0))
  replace hN : N ≤ wb.heap.size := Nat.le_trans hN hb.size
  replace hs0 : w.heap.size ≤ wb.heap.size := Nat.le_trans hs0 hb.size
  replace hl_T : w.heap.size < wb.heap.size := Nat.lt_of_lt_of_le hl_T hb.size
  replace hl_P : wa.heap.size < wb.heap.size := Nat.lt_of_lt_of_le hl_P hb.size
  clear hb
  have HQ1 := Lib.hid hn
  clear hn
  have HQ2 := Lib.hid hn'
  clear hn'
  go_wp2_with fail
  refine calls_name fun W2 hW => ?_
  have HL_W2 := Lib.hid (show Below wb.heap.size wb W2 by rw [← hW]; exact BlA)
  have hs_W2 : wb.heap.size ≤ W2.heap.size := by rw [← hW]; (first | omega | (simp; done) | (simp; omega))
  have hd_T_Q : w.heap.size < wb.heap.size := by omega
  have hd_P_Q : wa.heap.size < wb.heap.size := by omega
  have HK_W2 := Lib.hid (show Kp N wb W2 by rw [← hW]; exact KpA)
  replace k_T_0 : W2.cell? ⟨w.heap.size, 0, none⟩ = some (.int .i64 ((a : Nat) : Int)) := (HL_W2.out.cell (p := ⟨w.heap.size, 0, none⟩) hl_T).trans k_T_0
  replace k_T_1 : W2.cell? ⟨w.heap.size, 1, none⟩ = some (.int .i64 ((b : Nat) : Int)) := (HL_W2.out.cell (p := ⟨w.heap.size, 1, none⟩) hl_T).trans k_T_1
  replace k_T_2 : W2.cell? ⟨w.heap.size, 2, none⟩ = some (.int .i64 ((c : Nat) : Int)) := (HL_W2.out.cell (p := ⟨w.heap.size, 2, none⟩) hl_T).trans k_T_2
  replace k_T_3 : W2.cell? ⟨w.heap.size, 3, none⟩ = some (.int .i64 ((d : Nat) : Int)) := (HL_W2.out.cell (p := ⟨w.heap.size, 3, none⟩) hl_T).trans k_T_3
  replace f_T : ∀ o, W2.frozen? ⟨w.heap.size, o, none⟩ = false := fun o => (HL_W2.out.frozen (p := ⟨w.heap.size, o, none⟩) hl_T).trans (f_T o)
  replace HX_T := Lib.hid (show Bn W2 (w.heap.size) by rw [← hW]; exact KpA)
  replace k_P_0 : W2.cell? ⟨wa.heap.size, 0, none⟩ = some (.bool (decide ((p).num < 0))) := (HL_W2.out.cell (p := ⟨wa.heap.size, 0, none⟩) hl_P).trans k_P_0
  replace k_P_1 : W2.cell? ⟨wa.heap.size, 1, none⟩ = some (.slice rp (nlen (p).num.natAbs) cp) := (HL_W2.out.cell (p := ⟨wa.heap.size, 1, none⟩) hl_P).trans k_P_1
  replace k_P_2 : W2.cell? ⟨wa.heap.size, 2, none⟩ = some (.slice rp2 (nlen (p).den) cp2) := (HL_W2.out.cell (p := ⟨wa.heap.size, 2, none⟩) hl_P).trans k_P_2
  replace f_P : ∀ o, W2.frozen? ⟨wa.heap.size, o, none⟩ = false := fun o => (HL_W2.out.frozen (p := ⟨wa.heap.size, o, none⟩) hl_P).trans (f_P o)
  replace HX_P := Lib.hid (show Bn W2 (wa.heap.size) by rw [← hW]; exact KpA)
  have k_Q_0 : W2.cell? ⟨wb.heap.size, 0, none⟩ = some (.bool (decide ((p).num < 0))) := by rw [← hW]; (first | (go_simp; done) | (simp; done) | (simp [go_sem]; done) | (simp [go_sem, k_T_0, k_T_1, k_T_2, k_T_3, k_P_0, k_P_1, k_P_2, f_T, f_P, hl_T, hl_P]; done))
  have k_Q_1 : W2.cell? ⟨wb.heap.size, 1, none⟩ = some (.slice rq (nlen (p).num.natAbs) cq) := by rw [← hW]; (first | (go_simp; done) | (simp; done) | (simp [go_sem]; done) | (simp [go_sem, k_T_0, k_T_1, k_T_2, k_T_3, k_P_0, k_P_1, k_P_2, f_T, f_P, hl_T, hl_P]; done))
  have k_Q_2 : W2.cell? ⟨wb.heap.size, 2, none⟩ = some (.slice rq2 (nlen (p).den) cq2) := by rw [← hW]; (first | (go_simp; done) | (simp; done) | (simp [go_sem]; done) | (simp [go_sem, k_T_0, k_T_1, k_T_2, k_T_3, k_P_0, k_P_1, k_P_2, f_T, f_P, hl_T, hl_P]; done))
  have f_Q : ∀ o, W2.frozen? ⟨wb.heap.size, o, none⟩ = false := by intro o; rw [← hW]; (first | (go_simp; done) | (simp; done) | (simp [go_sem]; done) | (simp [go_sem, k_T_0, k_T_1, k_T_2, k_T_3, k_P_0, k_P_1, k_P_2, f_T, f_P, hl_T, hl_P]; done))
  have HX_Q := Lib.hid (show Bn W2 (wb.heap.size) by rw [← hW]; exact KpA)
  replace HP1 := Lib.hid (HP1.out.keep HK_W2.out)
  replace HP2 := Lib.hid (HP2.out.keep HK_W2.out)
  replace HQ1 := Lib.hid (HQ1.out.keep HK_W2.out)
  replace HQ2 := Lib.hid (HQ2.out.keep HK_W2.out)
  replace HB := Lib.hid (show Below w.heap.size w W2 by rw [← hW]; exact BlA)
  replace hN : N ≤ W2.heap.size := by rw [← hW]; (first | omega | (simp; done) | (simp; omega))
  replace hs0 : w.heap.size ≤ W2.heap.size := by rw [← hW]; (first | omega | (simp; done) | (simp; omega))
  replace hl_T : w.heap.size < W2.heap.size := by rw [← hW]; (first | omega | (simp; done) | (simp; omega))
  replace hl_P : wa.heap.size < W2.heap.size := by rw [← hW]; (first | omega | (simp; done) | (simp; omega))
  have hl_Q : wb.heap.size < W2.heap.size := by rw [← hW]; (first | omega | (simp; done) | (simp; omega))
  clear HL_W2
  clear hW HK_W2
  refine (fisher_ok (N := N) b a d c _ hN hb ha hd hc p HPs.out).mono ?_
  rintro e wc ⟨rr, cr, rr2, cr2, rfl, hn, hn', hb⟩
  have hs_wc : W2.heap.size ≤ wc.heap.size := hb.size
  replace k_T_0 : wc.cell? ⟨w.heap.size, 0, none⟩ = some (.int .i64 ((a : Nat) : Int)) := (hb.cell (p := ⟨w.heap.size, 0, none⟩) hl_T).trans k_T_0
  replace k_T_1 : wc.cell? ⟨w.heap.size, 1, none⟩ = some (.int .i64 ((b : Nat) : Int)) := (hb.cell (p := ⟨w.heap.size, 1, none⟩) hl_T).trans k_T_1
  replace k_T_2 : wc.cell? ⟨w.heap.size, 2, none⟩ = some (.int .i64 ((c : Nat) : Int)) := (hb.cell (p := ⟨w.heap.size, 2, none⟩) hl_T).trans k_T_2
  replace k_T_3 : wc.cell? ⟨w.heap.size, 3, none⟩ = some (.int .i64 ((d : Nat) : Int)) := (hb.cell (p := ⟨w.heap.size, 3, none⟩) hl_T).trans k_T_3
  replace f_T : ∀ o, wc.frozen? ⟨w.heap.size, o, none⟩ = false := fun o => (hb.frozen (p := ⟨w.heap.size, o, none⟩) hl_T).trans (f_T o)
  replace HX_T := Lib.hid (HX_T.out.below hb)
  replace k_P_0 : wc.cell? ⟨wa.heap.size, 0, none⟩ = some (.bool (decide ((p).num < 0))) := (hb.cell (p := ⟨wa.heap.size, 0, none⟩) hl_P).trans k_P_0
  replace k_P_1 : wc.cell? ⟨wa.heap.size, 1, none⟩ = some (.slice rp (nlen (p).num.natAbs) cp) := (hb.cell (p := ⟨wa.heap.size, 1, none⟩) hl_P).trans k_P_1
  replace k_P_2 : wc.cell? ⟨wa.heap.size, 2, none⟩ = some (.slice rp2 (nlen (p).den) cp2) := (hb.cell (p := ⟨wa.heap.size, 2, none⟩) hl_P).trans k_P_2
  replace f_P : ∀ o, wc.frozen? ⟨wa.heap.size, o, none⟩ = false := fun o => (hb.frozen (p := ⟨wa.heap.size, o, none⟩) hl_P).trans (f_P o)
  replace HX_P := Lib.hid (HX_P.out.below hb)
  replace k_Q_0 : wc.cell? ⟨wb.heap.size, 0, none⟩ = some (.bool (decide ((p).num < 0))) := (hb.cell (p := ⟨wb.heap.size, 0, none⟩) hl_Q).trans k_Q_0
  replace k_Q_1 : wc.cell? ⟨wb.heap.size, 1, none⟩ = some (.slice rq (nlen (p).num.natAbs) cq) := (hb.cell (p := ⟨wb.heap.size, 1, none⟩) hl_Q).trans k_Q_1
  replace k_Q_2 : wc.cell? ⟨wb.heap.size, 2, none⟩ = some (.slice rq2 (nlen (p).den) cq2) := (hb.cell (p := ⟨wb.heap.size, 2, none⟩) hl_Q).trans k_Q_2
  replace f_Q : ∀ o, wc.frozen? ⟨wb.heap.size, o, none⟩ = false := fun o => (hb.frozen (p := ⟨wb.heap.size, o, none⟩) hl_Q).trans (f_Q o)
  replace HX_Q := Lib.hid (HX_Q.out.below hb)
  replace HP1 := Lib.hid (HP1.out.below hb)
  replace HP2 := Lib.hid (HP2.out.below hb)
  replace HQ1 := Lib.hid (HQ1.out.below hb)
  replace HQ2 := Lib.hid (HQ2.out.below hb)
  replace HB := Lib.hid (HB.out.trans (hb.mono hs0))
  replace hN : N ≤ wc.heap.size := Nat.le_trans hN hb.size
  replace hs0 : w.heap.size ≤ wc.heap.size := Nat.le_trans hs0 hb.size
  replace hl_T : w.heap.size < wc.heap.size := Nat.lt_of_lt_of_le hl_T hb.size
  replace hl_P : wa.heap.size < wc.heap.size := Nat.lt_of_lt_of_le hl_P hb.size
  replace hl_Q : wb.heap.size < wc.heap.size := Nat.lt_of_lt_of_le hl_Q hb.size
  clear hb
  have HR1 := Lib.hid hn
  clear hn
  have HR2 := Lib.hid hn'
  clear hn'
  go_wp2_with fail
  refine calls_name fun W3 hW => ?_
  have HL_W3 := Lib.hid (show Below wc.heap.size wc W3 by rw [← hW]; exact BlA)
  have hs_W3 : wc.heap.size ≤ W3.heap.size := by rw [← hW]; (first | omega | (simp; done) | (simp; omega))
  have hd_T_R : w.heap.size < wc.heap.size := by omega
  have hd_P_R : wa.heap.size < wc.heap.size := by omega
  have hd_Q_R : wb.heap.size < wc.heap.size := by omega
  have HK_W3 := Lib.hid (show Kp N wc W3 by rw [← hW]; exact KpA)
  replace k_T_0 : W3.cell? ⟨w.heap.size, 0, none⟩ = some (.int .i64 ((a : Nat) : Int)) := (HL_W3.out.cell (p := ⟨w.heap.size, 0, none⟩) hl_T).trans k_T_0
  replace k_T_1 : W3.cell? ⟨w.heap.size, 1, none⟩ = some (.int .i64 ((b : Nat) : Int)) := (HL_W3.out.cell (p := ⟨w.heap.size, 1, none⟩) hl_T).trans k_T_1
  replace k_T_2 : W3.cell? ⟨w.heap.size, 2, none⟩ = some (.int .i64 ((c : Nat) : Int)) := (HL_W3.out.cell (p := ⟨w.heap.size, 2, none⟩) hl_T).trans k_T_2
  replace k_T_3 : W3.cell? ⟨w.heap.size, 3, none⟩ = some (.int .i64 ((d : Nat) : Int)) := (HL_W3.out.cell (p := ⟨w.heap.size, 3, none⟩) hl_T).trans k_T_3
  replace f_T : ∀ o, W3.frozen? ⟨w.heap.size, o, none⟩ = false := fun o => (HL_W3.out.frozen (p := ⟨w.heap.size, o, none⟩) hl_T).trans (f_T o)
  replace HX_T := Lib.hid (show Bn W3 (w.heap.size) by rw [← hW]; exact KpA)
  replace k_P_0 : W3.cell? ⟨wa.heap.size, 0, none⟩ = some (.bool (decide ((p).num < 0))) := (HL_W3.out.cell (p := ⟨wa.heap.size, 0, none⟩) hl_P).trans k_P_0
  replace k_P_1 : W3.cell? ⟨wa.heap.size, 1, none⟩ = some (.slice rp (nlen (p).num.natAbs) cp) := (HL_W3.out.cell (p := ⟨wa.heap.size, 1, none⟩) hl_P).trans k_P_1
  replace k_P_2 : W3.cell? ⟨wa.heap.size, 2, none⟩ = some (.slice rp2 (nlen (p).den) cp2) := (HL_W3.out.cell (p := ⟨wa.heap.size, 2, none⟩) hl_P).trans k_P_2
  replace f_P : ∀ o, W3.frozen? ⟨wa.heap.size, o, none⟩ = false := fun o => (HL_W3.out.frozen (p := ⟨wa.heap.size, o, none⟩) hl_P).trans (f_P o)
  replace HX_P := Lib.hid (show Bn W3 (wa.heap.size) by rw [← hW]; exact KpA)
  replace k_Q_0 : W3.cell? ⟨wb.heap.size, 0, none⟩ = some (.bool (decide ((p).num < 0))) := (HL_W3.out.cell (p := ⟨wb.heap.size, 0, none⟩) hl_Q).trans k_Q_0
  replace k_Q_1 : W3.cell? ⟨wb.heap.size, 1, none⟩ = some (.slice rq (nlen (p).num.natAbs) cq) := (HL_W3.out.cell (p := ⟨wb.heap.size, 1, none⟩) hl_Q).trans k_Q_1
  replace k_Q_2 : W3.cell? ⟨wb.heap.size, 2, none⟩ = some (.slice rq2 (nlen (p).den) cq2) := (HL_W3.out.cell (p := ⟨wb.heap.size, 2, none⟩) hl_Q).trans k_Q_2
  replace f_Q : ∀ o, W3.frozen? ⟨wb.heap.size, o, none⟩ = false := fun o => (HL_W3.out.frozen (p := ⟨wb.heap.size, o, none⟩) hl_Q).trans (f_Q o)
  replace HX_Q := Lib.hid (show Bn W3 (wb.heap.size) by rw [← hW]; exact KpA)
  have k_R_0 : W3.cell? ⟨wc.heap.size, 0, none⟩ = some (.bool (decide ((p).num < 0))) := by rw [← hW]; (first | (go_simp; done) | (simp; done) | (simp [go_sem]; done) | (simp [go_sem, k_T_0, k_T_1, k_T_2, k_T_3, k_P_0, k_P_1, k_P_2, k_Q_0, k_Q_1, k_Q_2, f_T, f_P, f_Q, hl_T, hl_P, hl_Q]; done))
  have k_R_1 : W3.cell? ⟨wc.heap.size, 1, none⟩ = some (.slice rr (nlen (p).num.natAbs) cr) := by rw [← hW]; (first | (go_simp; done) | (simp; done) | (simp [go_sem]; done) | (simp [go_sem, k_T_0, k_T_1, k_T_2, k_T_3, k_P_0, k_P_1, k_P_2, k_Q_0, k_Q_1, k_Q_2, f_T, f_P, f_Q, hl_T, hl_P, hl_Q]; done))
  have k_R_2 : W3.cell? ⟨wc.heap.size, 2, none⟩ = some (.slice rr2 (nlen (p).den) cr2) := by rw [← hW]; (first | (go_simp; done) | (simp; done) | (simp [go_sem]; done) | (simp [go_sem, k_T_0, k_T_1, k_T_2, k_T_3, k_P_0, k_P_1, k_P_2, k_Q_0, k_Q_1, k_Q_2, f_T, f_P, f_Q, hl_T, hl_P, hl_Q]; done))
  have f_R : ∀ o, W3.frozen? ⟨wc.heap.size, o, none⟩ = false := by intro o; rw [← hW]; (first | (go_simp; done) | (simp; done) | (simp [go_sem]; done) | (simp [go_sem, k_T_0, k_T_1, k_T_2, k_T_3, k_P_0, k_P_1, k_P_2, k_Q_0, k_Q_1, k_Q_2, f_T, f_P, f_Q, hl_T, hl_P, hl_Q]; done))
  have HX_R := Lib.hid (show Bn W3 (wc.heap.size) by rw [← hW]; exact KpA)
  replace HP1 := Lib.hid (HP1.out.keep HK_W3.out)
  replace HP2 := Lib.hid (HP2.out.keep HK_W3.out)
  replace HQ1 := Lib.hid (HQ1.out.keep HK_W3.out)
  replace HQ2 := Lib.hid (HQ2.out.keep HK_W3.out)
  replace HR1 := Lib.hid (HR1.out.keep HK_W3.out)
  replace HR2 := Lib.hid (HR2.out.keep HK_W3.out)
  replace HB := Lib.hid (show Below w.heap.size w W3 by rw [← hW]; exact BlA)
  replace hN : N ≤ W3.heap.size := by rw [← hW]; (first | omega | (simp; done) | (simp; omega))
  replace hs0 : w.heap.size ≤ W3.heap.size := by rw [← hW]; (first | omega | (simp; done) | (simp; omega))
  replace hl_T : w.heap.size < W3.heap.size := by rw [← hW]; (first | omega | (simp; done) | (simp; omega))
  replace hl_P : wa.heap.size < W3.heap.size := by rw [← hW]; (first | omega | (simp; done) | (simp; omega))
  replace hl_Q : wb.heap.size < W3.heap.size := by rw [← hW]; (first | omega | (simp; done) | (simp; omega))
  have hl_R : wc.heap.size < W3.heap.size := by rw [← hW]; (first | omega | (simp; done) | (simp; omega))
  clear HL_W3
  clear hW HK_W3
  clear hl_T f_T HX_T k_T_0 k_T_1 k_T_2 k_T_3
  refine (SameRatio_any (N := N) _ _ _ _ _ _ _ _ _ _ _ _ _ _ hN HP1.out HQ1.out HP2.out HQ2.out).mono ?_
  rintro e wd1 ⟨rfl, hb⟩
  have hs_wd1 : W3.heap.size ≤ wd1.heap.size := hb.size
  replace k_P_0 : wd1.cell? ⟨wa.heap.size, 0, none⟩ = some (.bool (decide ((p).num < 0))) := (hb.cell (p := ⟨wa.heap.size, 0, none⟩) hl_P).trans k_P_0
  replace k_P_1 : wd1.cell? ⟨wa.heap.size, 1, none⟩ = some (.slice rp (nlen (p).num.natAbs) cp) := (hb.cell (p := ⟨wa.heap.size, 1, none⟩) hl_P).trans k_P_1
  replace k_P_2 : wd1.cell? ⟨wa.heap.size, 2, none⟩ = some (.slice rp2 (nlen (p).den) cp2) := (hb.cell (p := ⟨wa.heap.size, 2, none⟩) hl_P).trans k_P_2
  replace f_P : ∀ o, wd1.frozen? ⟨wa.heap.size, o, none⟩ = false := fun o => (hb.frozen (p := ⟨wa.heap.size, o, none⟩) hl_P).trans (f_P o)
  replace HX_P := Lib.hid (HX_P.out.below hb)
  replace k_Q_0 : wd1.cell? ⟨wb.heap.size, 0, none⟩ = some (.bool (decide ((p).num < 0))) := (hb.cell (p := ⟨wb.heap.size, 0, none⟩) hl_Q).trans k_Q_0
  replace k_Q_1 : wd1.cell? ⟨wb.heap.size, 1, none⟩ = some (.slice rq (nlen (p).num.natAbs) cq) := (hb.cell (p := ⟨wb.heap.size, 1, none⟩) hl_Q).trans k_Q_1
  replace k_Q_2 : wd1.cell? ⟨wb.heap.size, 2, none⟩ = some (.slice rq2 (nlen (p).den) cq2) := (hb.cell (p := ⟨wb.heap.size, 2, none⟩) hl_Q).trans k_Q_2
  replace f_Q : ∀ o, wd1.frozen? ⟨wb.heap.size, o, none⟩ = false := fun o => (hb.frozen (p := ⟨wb.heap.size, o, none⟩) hl_Q).trans (f_Q o)
  replace HX_Q := Lib.hid (HX_Q.out.below hb)
  replace k_R_0 : wd1.cell? ⟨wc.heap.size, 0, none⟩ = some (.bool (decide ((p).num < 0))) := (hb.cell (p := ⟨wc.heap.size, 0, none⟩) hl_R).trans k_R_0
  replace k_R_1 : wd1.cell? ⟨wc.heap.size, 1, none⟩ = some (.slice rr (nlen (p).num.natAbs) cr) := (hb.cell (p := ⟨wc.heap.size, 1, none⟩) hl_R).trans k_R_1
  replace k_R_2 : wd1.cell? ⟨wc.heap.size, 2, none⟩ = some (.slice rr2 (nlen (p).den) cr2) := (hb.cell (p := ⟨wc.heap.size, 2, none⟩) hl_R).trans k_R_2
  replace f_R : ∀ o, wd1.frozen? ⟨wc.heap.size, o, none⟩ = false := fun o => (hb.frozen (p := ⟨wc.heap.size, o, none⟩) hl_R).trans (f_R o)
  replace HX_R := Lib.hid (HX_R.out.below hb)
  replace HP1 := Lib.hid (HP1.out.below hb)
  replace HP2 := Lib.hid (HP2.out.below hb)
  replace HQ1 := Lib.hid (HQ1.out.below hb)
  replace HQ2 := Lib.hid (HQ2.out.below hb)
  replace HR1 := Lib.hid (HR1.out.below hb)
  replace HR2 := Lib.hid (HR2.out.below hb)
  replace HB := Lib.hid (HB.out.trans (hb.mono hs0))
  replace hN : N ≤ wd1.heap.size := Nat.le_trans hN hb.size
  replace hs0 : w.heap.size ≤ wd1.heap.size := Nat.le_trans hs0 hb.size
  replace hl_P : wa.heap.size < wd1.heap.size := Nat.lt_of_lt_of_le hl_P hb.size
  replace hl_Q : wb.heap.size < wd1.heap.size := Nat.lt_of_lt_of_le hl_Q hb.size
  replace hl_R : wc.heap.size < wd1.heap.size := Nat.lt_of_lt_of_le hl_R hb.size
  clear hb
  go_wp2_with fail
  refine calls_name fun W4 hW => ?_
  have HL_W4 := Lib.hid (show Below wd1.heap.size wd1 W4 by rw [← hW]; exact BlA)
  have hs_W4 : wd1.heap.size ≤ W4.heap.size := by rw [← hW]; (first | omega | (simp; done) | (simp; omega))
  have HK_W4 := Lib.hid (show Kp N wd1 W4 by rw [← hW]; exact KpA)
  replace k_P_0 : W4.cell? ⟨wa.heap.size, 0, none⟩ = some (.bool (decide ((p).num < 0))) := (HL_W4.out.cell (p := ⟨wa.heap.size, 0, none⟩) hl_P).trans k_P_0
  replace k_P_1 : W4.cell? ⟨wa.heap.size, 1, none⟩ = some (.slice rp (nlen (p).num.natAbs) cp) := (HL_W4.out.cell (p := ⟨wa.heap.size, 1, none⟩) hl_P).trans k_P_1
  replace k_P_2 : W4.cell? ⟨wa.heap.size, 2, none⟩ = some (.slice rp2 (nlen (p).den) cp2) := (HL_W4.out.cell (p := ⟨wa.heap.size, 2, none⟩) hl_P).trans k_P_2
  replace f_P : ∀ o, W4.frozen? ⟨wa.heap.size, o, none⟩ = false := fun o => (HL_W4.out.frozen (p := ⟨wa.heap.size, o, none⟩) hl_P).trans (f_P o)
  replace HX_P := Lib.hid (show Bn W4 (wa.heap.size) by rw [← hW]; exact KpA)
  replace k_Q_0 : W4.cell? ⟨wb.heap.size, 0, none⟩ = some (.bool (decide ((p).num < 0))) := (HL_W4.out.cell (p := ⟨wb.heap.size, 0, none⟩) hl_Q).trans k_Q_0
  replace k_Q_1 : W4.cell? ⟨wb.heap.size, 1, none⟩ = some (.slice rq (nlen (p).num.natAbs) cq) := (HL_W4.out.cell (p := ⟨wb.heap.size, 1, none⟩) hl_Q).trans k_Q_1
  replace k_Q_2 : W4.cell? ⟨wb.heap.size, 2, none⟩ = some (.slice rq2 (nlen (p).den) cq2) := (HL_W4.out.cell (p := ⟨wb.heap.size, 2, none⟩) hl_Q).trans k_Q_2
  replace f_Q : ∀ o, W4.frozen? ⟨wb.heap.size, o, none⟩ = false := fun o => (HL_W4.out.frozen (p := ⟨wb.heap.size, o, none⟩) hl_Q).trans (f_Q o)
  replace HX_Q := Lib.hid (show Bn W4 (wb.heap.size) by rw [← hW]; exact KpA)
  replace k_R_0 : W4.cell? ⟨wc.heap.size, 0, none⟩ = some (.bool (decide ((p).num < 0))) := (HL_W4.out.cell (p := ⟨wc.heap.size, 0, none⟩) hl_R).trans k_R_0
  replace k_R_1 : W4.cell? ⟨wc.heap.size, 1, none⟩ = some (.slice rr (nlen (p).num.natAbs) cr) := (HL_W4.out.cell (p := ⟨wc.heap.size, 1, none⟩) hl_R).trans k_R_1
  replace k_R_2 : W4.cell? ⟨wc.heap.size, 2, none⟩ = some (.slice rr2 (nlen (p).den) cr2) := (HL_W4.out.cell (p := ⟨wc.heap.size, 2, none⟩) hl_R).trans k_R_2
  replace f_R : ∀ o, W4.frozen? ⟨wc.heap.size, o, none⟩ = false := fun o => (HL_W4.out.frozen (p := ⟨wc.heap.size, o, none⟩) hl_R).trans (f_R o)
  replace HX_R := Lib.hid (show Bn W4 (wc.heap.size) by rw [← hW]; exact KpA)
  replace HP1 := Lib.hid (HP1.out.keep HK_W4.out)
  replace HP2 := Lib.hid (HP2.out.keep HK_W4.out)
  replace HQ1 := Lib.hid (HQ1.out.keep HK_W4.out)
  replace HQ2 := Lib.hid (HQ2.out.keep HK_W4.out)
  replace HR1 := Lib.hid (HR1.out.keep HK_W4.out)
  replace HR2 := Lib.hid (HR2.out.keep HK_W4.out)
  replace HB := Lib.hid (show Below w.heap.size w W4 by rw [← hW]; exact BlA)
  replace hN : N ≤ W4.heap.size := by rw [← hW]; (first | omega | (simp; done) | (simp; omega))
  replace hs0 : w.heap.size ≤ W4.heap.size := by rw [← hW]; (first | omega | (simp; done) | (simp; omega))
  replace hl_P : wa.heap.size < W4.heap.size := by rw [← hW]; (first | omega | (simp; done) | (simp; omega))
  replace hl_Q : wb.heap.size < W4.heap.size := by rw [← hW]; (first | omega | (simp; done) | (simp; omega))
  replace hl_R : wc.heap.size < W4.heap.size := by rw [← hW]; (first | omega | (simp; done) | (simp; omega))
  clear HL_W4
  clear hW HK_W4
  refine (SameRatio_any (N := N) _ _ _ _ _ _ _ _ _ _ _ _ _ _ hN HQ1.out HR1.out HQ2.out HR2.out).mono ?_
  rintro e wd2 ⟨rfl, hb⟩
  have hs_wd2 : W4.heap.size ≤ wd2.heap.size := hb.size
  replace k_P_0 : wd2.cell? ⟨wa.heap.size, 0, none⟩ = some (.bool (decide ((p).num < 0))) := (hb.cell (p := ⟨wa.heap.size, 0, none⟩) hl_P).trans k_P_0
  replace k_P_1 : wd2.cell? ⟨wa.heap.size, 1, none⟩ = some (.slice rp (nlen (p).num.natAbs) cp) := (hb.cell (p := ⟨wa.heap.size, 1, none⟩) hl_P).trans k_P_1
  replace k_P_2 : wd2.cell? ⟨wa.heap.size, 2, none⟩ = some (.slice rp2 (nlen (p).den) cp2) := (hb.cell (p := ⟨wa.heap.size, 2, none⟩) hl_P).trans k_P_2
  replace f_P : ∀ o, wd2.frozen? ⟨wa.heap.size, o, none⟩ = false := fun o => (hb.frozen (p := ⟨wa.heap.size, o, none⟩) hl_P).trans (f_P o)
  replace HX_P := Lib.hid (HX_P.out.below hb)
  replace k_Q_0 : wd2.cell? ⟨wb.heap.size, 0, none⟩ = some (.bool (decide ((p).num < 0))) := (hb.cell (p := ⟨wb.heap.size, 0, none⟩) hl_Q).trans k_Q_0
  replace k_Q_1 : wd2.cell? ⟨wb.heap.size, 1, none⟩ = some (.slice rq (nlen (p).num.natAbs) cq) := (hb.cell (p := ⟨wb.heap.size, 1, none⟩) hl_Q).trans k_Q_1
  replace k_Q_2 : wd2.cell? ⟨wb.heap.size, 2, none⟩ = some (.slice rq2 (nlen (p).den) cq2) := (hb.cell (p := ⟨wb.heap.size, 2, none⟩) hl_Q).trans k_Q_2
  replace f_Q : ∀ o, wd2.frozen? ⟨wb.heap.size, o, none⟩ = false := fun o => (hb.frozen (p := ⟨wb.heap.size, o, none⟩) hl_Q).trans (f_Q o)
  replace HX_Q := Lib.hid (HX_Q.out.below hb)
  replace k_R_0 : wd2.cell? ⟨wc.heap.size, 0, none⟩ = some (.bool (decide ((p).num < 0))) := (hb.cell (p := ⟨wc.heap.size, 0, none⟩) hl_R).trans k_R_0
  replace k_R_1 : wd2.cell? ⟨wc.heap.size, 1, none⟩ = some (.slice rr (nlen (p).num.natAbs) cr) := (hb.cell (p := ⟨wc.heap.size, 1, none⟩) hl_R).trans k_R_1
  replace k_R_2 : wd2.cell? ⟨wc.heap.size, 2, none⟩ = some (.slice rr2 (nlen (p).den) cr2) := (hb.cell (p := ⟨wc.heap.size, 2, none⟩) hl_R).trans k_R_2
  replace f_R : ∀ o, wd2.frozen? ⟨wc.heap.size, o, none⟩ = false := fun o => (hb.frozen (p := ⟨wc.heap.size, o, none⟩) hl_R).trans (f_R o)
  replace HX_R := Lib.hid (HX_R.out.below hb)
  replace HP1 := Lib.hid (HP1.out.below hb)
  replace HP2 := Lib.hid (HP2.out.below hb)
  replace HQ1 := Lib.hid (HQ1.out.below hb)
  replace HQ2 := Lib.hid (HQ2.out.below hb)
  replace HR1 := Lib.hid (HR1.out.below hb)
  replace HR2 := Lib.hid (HR2.out.below hb)
  replace HB := Lib.hid (HB.out.trans (hb.mono hs0))
  replace hN : N ≤ wd2.heap.size := Nat.le_trans hN hb.size
  replace hs0 : w.heap.size ≤ wd2.heap.size := Nat.le_trans hs0 hb.size
  replace hl_P : wa.heap.size < wd2.heap.size := Nat.lt_of_lt_of_le hl_P hb.size
  replace hl_Q : wb.heap.size < wd2.heap.size := Nat.lt_of_lt_of_le hl_Q hb.size
  replace hl_R : wc.heap.size < wd2.heap.size := Nat.lt_of_lt_of_le hl_R hb.size
  clear hb
  clear hl_R f_R HX_R k_R_0 k_R_1 k_R_2
  clear HR1
  clear HR2
  clear HQ1
  clear HQ2
  go_wp2_with fail
  refine region_name fun W4b hW => ?_
  have HL_W4b := Lib.hid (show Below wd2.heap.size wd2 W4b by rw [← hW]; exact BlA)
  have hs_W4b : wd2.heap.size ≤ W4b.heap.size := by rw [← hW]; (first | omega | (simp; done) | (simp; omega))
  have HK_W4b := Lib.hid (show Kp N wd2 W4b by rw [← hW]; exact KpA)
  replace k_P_0 : W4b.cell? ⟨wa.heap.size, 0, none⟩ = some (.bool (decide ((p).num < 0))) := (HL_W4b.out.cell (p := ⟨wa.heap.size, 0, none⟩) hl_P).trans k_P_0
  replace k_P_1 : W4b.cell? ⟨wa.heap.size, 1, none⟩ = some (.slice rp (nlen (p).num.natAbs) cp) := (HL_W4b.out.cell (p := ⟨wa.heap.size, 1, none⟩) hl_P).trans k_P_1
  replace k_P_2 : W4b.cell? ⟨wa.heap.size, 2, none⟩ = some (.slice rp2 (nlen (p).den) cp2) := (HL_W4b.out.cell (p := ⟨wa.heap.size, 2, none⟩) hl_P).trans k_P_2
  replace f_P : ∀ o, W4b.frozen? ⟨wa.heap.size, o, none⟩ = false := fun o => (HL_W4b.out.frozen (p := ⟨wa.heap.size, o, none⟩) hl_P).trans (f_P o)
  replace HX_P := Lib.hid (show Bn W4b (wa.heap.size) by rw [← hW]; exact KpA)
  replace k_Q_0 : W4b.cell? ⟨wb.heap.size, 0, none⟩ = some (.bool (decide ((p).num < 0))) := (HL_W4b.out.cell (p := ⟨wb.heap.size, 0, none⟩) hl_Q).trans k_Q_0
  replace k_Q_1 : W4b.cell? ⟨wb.heap.size, 1, none⟩ = some (.slice rq (nlen (p).num.natAbs) cq) := (HL_W4b.out.cell (p := ⟨wb.heap.size, 1, none⟩) hl_Q).trans k_Q_1
  replace k_Q_2 : W4b.cell? ⟨wb.heap.size, 2, none⟩ = some (.slice rq2 (nlen (p).den) cq2) := (HL_W4b.out.cell (p := ⟨wb.heap.size, 2, none⟩) hl_Q).trans k_Q_2
  replace f_Q : ∀ o, W4b.frozen? ⟨wb.heap.size, o, none⟩ = false := fun o => (HL_W4b.out.frozen (p := ⟨wb.heap.size, o, none⟩) hl_Q).trans (f_Q o)
  replace HX_Q := Lib.hid (show Bn W4b (wb.heap.size) by rw [← hW]; exact KpA)
  replace HP1 := Lib.hid (HP1.out.keep HK_W4b.out)
  replace HP2 := Lib.hid (HP2.out.keep HK_W4b.out)
  replace HB := Lib.hid (show Below w.heap.size w W4b by rw [← hW]; exact BlA)
  replace hN : N ≤ W4b.heap.size := by rw [← hW]; (first | omega | (simp; done) | (simp; omega))
  replace hs0 : w.heap.size ≤ W4b.heap.size := by rw [← hW]; (first | omega | (simp; done) | (simp; omega))
  replace hl_P : wa.heap.size < W4b.heap.size := by rw [← hW]; (first | omega | (simp; done) | (simp; omega))
  replace hl_Q : wb.heap.size < W4b.heap.size := by rw [← hW]; (first | omega | (simp; done) | (simp; omega))
  clear HL_W4b
  clear hW HK_W4b
  go_region_held3 (fun w' => w'.cell? ⟨wa.heap.size, 0, none⟩ = some (.bool (decide ((p).num < 0))) ∧ w'.cell? ⟨wa.heap.size, 1, none⟩ = some (.slice rp (nlen (p).num.natAbs) cp) ∧ w'.cell? ⟨wa.heap.size, 2, none⟩ = some (.slice rp2 (nlen (p).den) cp2))
    (first | (go_keep; done) | ((try dsimp only); (repeat' apply And.intro) <;> (first | (go_keep; done) | (exact cell_keep_alloc_drew (by first | omega | (simp; omega)) (by first | assumption | go_simp)) | (exact cell_keep_alloc (by first | omega | (simp; omega)) (by first | assumption | go_simp)) | (rw [cell_set2 _ _ _ _ _ _ _ _ (by omega)]; assumption) | (rw [cell_set3 _ _ _ _ _ _ _ _ _ _ (by omega)]; assumption))))
    (first
      | (go_at_call 13; refine (rsign_any (N := N) _ _ _ _ _ _ _ 122 p _ (by exact hN) (by exact Rt.of_norm HP1.out HP2.out 122 HZx.out)).mono ?_; rw [HSGx.out]; rintro e wax ⟨rfl, hb⟩; replace hb : Below W4b.heap.size W4b wax := (by first | exact hb | exact bel_of_drew hb); have hs_wax : W4b.heap.size ≤ wax.heap.size := hb.size; replace k_P_0 : wax.cell? ⟨wa.heap.size, 0, none⟩ = some (.bool (decide ((p).num < 0))) := (hb.cell (p := ⟨wa.heap.size, 0, none⟩) hl_P).trans k_P_0; replace k_P_1 : wax.cell? ⟨wa.heap.size, 1, none⟩ = some (.slice rp (nlen (p).num.natAbs) cp) := (hb.cell (p := ⟨wa.heap.size, 1, none⟩) hl_P).trans k_P_1; replace k_P_2 : wax.cell? ⟨wa.heap.size, 2, none⟩ = some (.slice rp2 (nlen (p).den) cp2) := (hb.cell (p := ⟨wa.heap.size, 2, none⟩) hl_P).trans k_P_2; replace f_P : ∀ o, wax.frozen? ⟨wa.heap.size, o, none⟩ = false := fun o => (hb.frozen (p := ⟨wa.heap.size, o, none⟩) hl_P).trans (f_P o); replace HX_P := Lib.hid (HX_P.out.below hb); replace k_Q_0 : wax.cell? ⟨wb.heap.size, 0, none⟩ = some (.bool (decide ((p).num < 0))) := (hb.cell (p := ⟨wb.heap.size, 0, none⟩) hl_Q).trans k_Q_0; replace k_Q_1 : wax.cell? ⟨wb.heap.size, 1, none⟩ = some (.slice rq (nlen (p).num.natAbs) cq) := (hb.cell (p := ⟨wb.heap.size, 1, none⟩) hl_Q).trans k_Q_1; replace k_Q_2 : wax.cell? ⟨wb.heap.size, 2, none⟩ = some (.slice rq2 (nlen (p).den) cq2) := (hb.cell (p := ⟨wb.heap.size, 2, none⟩) hl_Q).trans k_Q_2; replace f_Q : ∀ o, wax.frozen? ⟨wb.heap.size, o, none⟩ = false := fun o => (hb.frozen (p := ⟨wb.heap.size, o, none⟩) hl_Q).trans (f_Q o); replace HX_Q := Lib.hid (HX_Q.out.below hb); replace HP1 := Lib.hid (HP1.out.below hb); replace HP2 := Lib.hid (HP2.out.below hb); replace HB := Lib.hid (HB.out.trans (hb.mono hs0)); replace hN : N ≤ wax.heap.size := Nat.le_trans hN hb.size; replace hs0 : w.heap.size ≤ wax.heap.size := Nat.le_trans hs0 hb.size; replace hl_P : wa.heap.size < wax.heap.size := Nat.lt_of_lt_of_le hl_P hb.size; replace hl_Q : wb.heap.size < wax.heap.size := Nat.lt_of_lt_of_le hl_Q hb.size; clear hb; skip)
      | (go_at_call 20; refine (dpart_any (N := N) 1 1 _ (by exact hN) (by decide) (by decide) _ rfl).mono ?_; rintro e wbx ⟨rax, dax, rfl, hn, hb⟩; replace hb : Below wax.heap.size wax wbx := (by first | exact hb | exact bel_of_drew hb); have hs_wbx : wax.heap.size ≤ wbx.heap.size := hb.size; replace k_P_0 : wbx.cell? ⟨wa.heap.size, 0, none⟩ = some (.bool (decide ((p).num < 0))) := (hb.cell (p := ⟨wa.heap.size, 0, none⟩) hl_P).trans k_P_0; replace k_P_1 : wbx.cell? ⟨wa.heap.size, 1, none⟩ = some (.slice rp (nlen (p).num.natAbs) cp) := (hb.cell (p := ⟨wa.heap.size, 1, none⟩) hl_P).trans k_P_1; replace k_P_2 : wbx.cell? ⟨wa.heap.size, 2, none⟩ = some (.slice rp2 (nlen (p).den) cp2) := (hb.cell (p := ⟨wa.heap.size, 2, none⟩) hl_P).trans k_P_2; replace f_P : ∀ o, wbx.frozen? ⟨wa.heap.size, o, none⟩ = false := fun o => (hb.frozen (p := ⟨wa.heap.size, o, none⟩) hl_P).trans (f_P o); replace HX_P := Lib.hid (HX_P.out.below hb); replace k_Q_0 : wbx.cell? ⟨wb.heap.size, 0, none⟩ = some (.bool (decide ((p).num < 0))) := (hb.cell (p := ⟨wb.heap.size, 0, none⟩) hl_Q).trans k_Q_0; replace k_Q_1 : wbx.cell? ⟨wb.heap.size, 1, none⟩ = some (.slice rq (nlen (p).num.natAbs) cq) := (hb.cell (p := ⟨wb.heap.size, 1, none⟩) hl_Q).trans k_Q_1; replace k_Q_2 : wbx.cell? ⟨wb.heap.size, 2, none⟩ = some (.slice rq2 (nlen (p).den) cq2) := (hb.cell (p := ⟨wb.heap.size, 2, none⟩) hl_Q).trans k_Q_2; replace f_Q : ∀ o, wbx.frozen? ⟨wb.heap.size, o, none⟩ = false := fun o => (hb.frozen (p := ⟨wb.heap.size, o, none⟩) hl_Q).trans (f_Q o); replace HX_Q := Lib.hid (HX_Q.out.below hb); replace HP1 := Lib.hid (HP1.out.below hb); replace HP2 := Lib.hid (HP2.out.below hb); replace HB := Lib.hid (HB.out.trans (hb.mono hs0)); replace hN : N ≤ wbx.heap.size := Nat.le_trans hN hb.size; replace hs0 : w.heap.size ≤ wbx.heap.size := Nat.le_trans hs0 hb.size; replace hl_P : wa.heap.size < wbx.heap.size := Nat.lt_of_lt_of_le hl_P hb.size; replace hl_Q : wb.heap.size < wbx.heap.size := Nat.lt_of_lt_of_le hl_Q hb.size; clear hb; have HQO := Lib.hid hn; clear hn; skip)
      | (go_at_call 12; refine (rcmp_any (N := N) _ _ _ _ _ _ _ _ _ _ _ _ _ _ 122 1 p (frq 1 1) _ (by exact hN) (by exact Rt.of_norm HP1.out HP2.out 122 HZx.out) (by exact HQO.out) (by omega) (by omega)).mono ?_; rw [HKx.out]; rintro e wcx ⟨rfl, hb⟩; replace hb : Below wbx.heap.size wbx wcx := (by first | exact hb | exact bel_of_drew hb); have hs_wcx : wbx.heap.size ≤ wcx.heap.size := hb.size; replace k_P_0 : wcx.cell? ⟨wa.heap.size, 0, none⟩ = some (.bool (decide ((p).num < 0))) := (hb.cell (p := ⟨wa.heap.size, 0, none⟩) hl_P).trans k_P_0; replace k_P_1 : wcx.cell? ⟨wa.heap.size, 1, none⟩ = some (.slice rp (nlen (p).num.natAbs) cp) := (hb.cell (p := ⟨wa.heap.size, 1, none⟩) hl_P).trans k_P_1; replace k_P_2 : wcx.cell? ⟨wa.heap.size, 2, none⟩ = some (.slice rp2 (nlen (p).den) cp2) := (hb.cell (p := ⟨wa.heap.size, 2, none⟩) hl_P).trans k_P_2; replace f_P : ∀ o, wcx.frozen? ⟨wa.heap.size, o, none⟩ = false := fun o => (hb.frozen (p := ⟨wa.heap.size, o, none⟩) hl_P).trans (f_P o); replace HX_P := Lib.hid (HX_P.out.below hb); replace k_Q_0 : wcx.cell? ⟨wb.heap.size, 0, none⟩ = some (.bool (decide ((p).num < 0))) := (hb.cell (p := ⟨wb.heap.size, 0, none⟩) hl_Q).trans k_Q_0; replace k_Q_1 : wcx.cell? ⟨wb.heap.size, 1, none⟩ = some (.slice rq (nlen (p).num.natAbs) cq) := (hb.cell (p := ⟨wb.heap.size, 1, none⟩) hl_Q).trans k_Q_1; replace k_Q_2 : wcx.cell? ⟨wb.heap.size, 2, none⟩ = some (.slice rq2 (nlen (p).den) cq2) := (hb.cell (p := ⟨wb.heap.size, 2, none⟩) hl_Q).trans k_Q_2; replace f_Q : ∀ o, wcx.frozen? ⟨wb.heap.size, o, none⟩ = false := fun o => (hb.frozen (p := ⟨wb.heap.size, o, none⟩) hl_Q).trans (f_Q o); replace HX_Q := Lib.hid (HX_Q.out.below hb); replace HP1 := Lib.hid (HP1.out.below hb); replace HP2 := Lib.hid (HP2.out.below hb); replace HQO := Lib.hid (HQO.out.below hb); replace HB := Lib.hid (HB.out.trans (hb.mono hs0)); replace hN : N ≤ wcx.heap.size := Nat.le_trans hN hb.size; replace hs0 : w.heap.size ≤ wcx.heap.size := Nat.le_trans hs0 hb.size; replace hl_P : wa.heap.size < wcx.heap.size := Nat.lt_of_lt_of_le hl_P hb.size; replace hl_Q : wb.heap.size < wcx.heap.size := Nat.lt_of_lt_of_le hl_Q hb.size; clear hb; skip))
  clear HQO
  go_wp2_with fail
  clear HP1
  clear HP2
  refine calls_name fun W5 hW => ?_
  have HL_W5 := Lib.hid (show Below wcx.heap.size wcx W5 by rw [← hW]; exact BlA)
  have hs_W5 : wcx.heap.size ≤ W5.heap.size := by rw [← hW]; (first | omega | (simp; done) | (simp; omega))
  replace k_P_0 : W5.cell? ⟨wa.heap.size, 0, none⟩ = some (.bool (decide ((p).num < 0))) := (HL_W5.out.cell (p := ⟨wa.heap.size, 0, none⟩) hl_P).trans k_P_0
  replace k_P_1 : W5.cell? ⟨wa.heap.size, 1, none⟩ = some (.slice rp (nlen (p).num.natAbs) cp) := (HL_W5.out.cell (p := ⟨wa.heap.size, 1, none⟩) hl_P).trans k_P_1
  replace k_P_2 : W5.cell? ⟨wa.heap.size, 2, none⟩ = some (.slice rp2 (nlen (p).den) cp2) := (HL_W5.out.cell (p := ⟨wa.heap.size, 2, none⟩) hl_P).trans k_P_2
  replace f_P : ∀ o, W5.frozen? ⟨wa.heap.size, o, none⟩ = false := fun o => (HL_W5.out.frozen (p := ⟨wa.heap.size, o, none⟩) hl_P).trans (f_P o)
  replace HX_P := Lib.hid (show Bn W5 (wa.heap.size) by rw [← hW]; exact KpA)
  replace k_Q_0 : W5.cell? ⟨wb.heap.size, 0, none⟩ = some (.bool (decide ((p).num < 0))) := (HL_W5.out.cell (p := ⟨wb.heap.size, 0, none⟩) hl_Q).trans k_Q_0
  replace k_Q_1 : W5.cell? ⟨wb.heap.size, 1, none⟩ = some (.slice rq (nlen (p).num.natAbs) cq) := (HL_W5.out.cell (p := ⟨wb.heap.size, 1, none⟩) hl_Q).trans k_Q_1
  replace k_Q_2 : W5.cell? ⟨wb.heap.size, 2, none⟩ = some (.slice rq2 (nlen (p).den) cq2) := (HL_W5.out.cell (p := ⟨wb.heap.size, 2, none⟩) hl_Q).trans k_Q_2
  replace f_Q : ∀ o, W5.frozen? ⟨wb.heap.size, o, none⟩ = false := fun o => (HL_W5.out.frozen (p := ⟨wb.heap.size, o, none⟩) hl_Q).trans (f_Q o)
  replace HX_Q := Lib.hid (show Bn W5 (wb.heap.size) by rw [← hW]; exact KpA)
  replace HB := Lib.hid (show Below w.heap.size w W5 by rw [← hW]; exact BlA)
  replace hN : N ≤ W5.heap.size := by rw [← hW]; (first | omega | (simp; done) | (simp; omega))
  replace hs0 : w.heap.size ≤ W5.heap.size := by rw [← hW]; (first | omega | (simp; done) | (simp; omega))
  replace hl_P : wa.heap.size < W5.heap.size := by rw [← hW]; (first | omega | (simp; done) | (simp; omega))
  replace hl_Q : wb.heap.size < W5.heap.size := by rw [← hW]; (first | omega | (simp; done) | (simp; omega))
  clear HL_W5
  clear hW
  refine (sign_ok (N := N) x y _ hN hx hy p9 HP9.out).mono ?_
  rintro e we ⟨ru, cu, ru2, cu2, rfl, hn, hn', hb⟩
  have hs_we : W5.heap.size ≤ we.heap.size := hb.size
  replace k_P_0 : we.cell? ⟨wa.heap.size, 0, none⟩ = some (.bool (decide ((p).num < 0))) := (hb.cell (p := ⟨wa.heap.size, 0, none⟩) hl_P).trans k_P_0
  replace k_P_1 : we.cell? ⟨wa.heap.size, 1, none⟩ = some (.slice rp (nlen (p).num.natAbs) cp) := (hb.cell (p := ⟨wa.heap.size, 1, none⟩) hl_P).trans k_P_1
  replace k_P_2 : we.cell? ⟨wa.heap.size, 2, none⟩ = some (.slice rp2 (nlen (p).den) cp2) := (hb.cell (p := ⟨wa.heap.size, 2, none⟩) hl_P).trans k_P_2
  replace f_P : ∀ o, we.frozen? ⟨wa.heap.size, o, none⟩ = false := fun o => (hb.frozen (p := ⟨wa.heap.size, o, none⟩) hl_P).trans (f_P o)
  replace HX_P := Lib.hid (HX_P.out.below hb)
  replace k_Q_0 : we.cell? ⟨wb.heap.size, 0, none⟩ = some (.bool (decide ((p).num < 0))) := (hb.cell (p := ⟨wb.heap.size, 0, none⟩) hl_Q).trans k_Q_0
  replace k_Q_1 : we.cell? ⟨wb.heap.size, 1, none⟩ = some (.slice rq (nlen (p).num.natAbs) cq) := (hb.cell (p := ⟨wb.heap.size, 1, none⟩) hl_Q).trans k_Q_1
  replace k_Q_2 : we.cell? ⟨wb.heap.size, 2, none⟩ = some (.slice rq2 (nlen (p).den) cq2) := (hb.cell (p := ⟨wb.heap.size, 2, none⟩) hl_Q).trans k_Q_2
  replace f_Q : ∀ o, we.frozen? ⟨wb.heap.size, o, none⟩ = false := fun o => (hb.frozen (p := ⟨wb.heap.size, o, none⟩) hl_Q).trans (f_Q o)
  replace HX_Q := Lib.hid (HX_Q.out.below hb)
  replace HB := Lib.hid (HB.out.trans (hb.mono hs0))
  replace hN : N ≤ we.heap.size := Nat.le_trans hN hb.size
  replace hs0 : w.heap.size ≤ we.heap.size := Nat.le_trans hs0 hb.size
  replace hl_P : wa.heap.size < we.heap.size := Nat.lt_of_lt_of_le hl_P hb.size
  replace hl_Q : wb.heap.size < we.heap.size := Nat.lt_of_lt_of_le hl_Q hb.size
  clear hb
  have HU1 := Lib.hid hn
  clear hn
  have HU2 := Lib.hid hn'
  clear hn'
  go_wp2_with fail
  refine calls_name fun W6 hW => ?_
  have hs_W6 : we.heap.size ≤ W6.heap.size := by rw [← hW]; (first | omega | (simp; done) | (simp; omega))
  have HK_W6 := Lib.hid (show Kp N we W6 by rw [← hW]; exact KpA)
  replace k_P_0 : W6.cell? ⟨wa.heap.size, 0, none⟩ = some (.bool (decide ((p9).num < 0))) := by rw [← hW]; (first | (go_simp; done) | (simp [go_sem, k_P_0]; done) | (simp [go_sem, k_P_0, k_P_1, k_P_2]; done) | (simp [go_sem, k_P_0, k_P_1, k_P_2, k_Q_0, k_Q_1, k_Q_2, f_P, f_Q, hl_P, hl_Q]; done))
  replace k_P_1 : W6.cell? ⟨wa.heap.size, 1, none⟩ = some (.slice ru (nlen (p9).num.natAbs) cu) := by rw [← hW]; (first | (go_simp; done) | (simp [go_sem, k_P_1]; done) | (simp [go_sem, k_P_0, k_P_1, k_P_2]; done) | (simp [go_sem, k_P_0, k_P_1, k_P_2, k_Q_0, k_Q_1, k_Q_2, f_P, f_Q, hl_P, hl_Q]; done))
  replace k_P_2 : W6.cell? ⟨wa.heap.size, 2, none⟩ = some (.slice ru2 (nlen (p9).den) cu2) := by rw [← hW]; (first | (go_simp; done) | (simp [go_sem, k_P_2]; done) | (simp [go_sem, k_P_0, k_P_1, k_P_2]; done) | (simp [go_sem, k_P_0, k_P_1, k_P_2, k_Q_0, k_Q_1, k_Q_2, f_P, f_Q, hl_P, hl_Q]; done))
  replace f_P : ∀ o, W6.frozen? ⟨wa.heap.size, o, none⟩ = false := by intro o; rw [← hW]; (first | with_reducible exact f_P o | (simp [go_sem, f_P]; done) | (simp [go_sem, f_P, hl_P]; done) | (go_simp; done) | (simp [go_sem, k_P_0, k_P_1, k_P_2, k_Q_0, k_Q_1, k_Q_2, f_P, f_Q, hl_P, hl_Q]; done))
  replace HX_P := Lib.hid (show Bn W6 (wa.heap.size) by rw [← hW]; exact KpA)
  replace k_Q_0 : W6.cell? ⟨wb.heap.size, 0, none⟩ = some (.bool (decide ((p).num < 0))) := by rw [← hW]; (first | with_reducible exact k_Q_0 | (simp [go_sem, k_Q_0]; done) | (simp [go_sem, k_Q_0, hl_Q]; done) | (go_simp; done) | (simp [go_sem, k_P_0, k_P_1, k_P_2, k_Q_0, k_Q_1, k_Q_2, f_P, f_Q, hl_P, hl_Q]; done))
  replace k_Q_1 : W6.cell? ⟨wb.heap.size, 1, none⟩ = some (.slice rq (nlen (p).num.natAbs) cq) := by rw [← hW]; (first | with_reducible exact k_Q_1 | (simp [go_sem, k_Q_1]; done) | (simp [go_sem, k_Q_1, hl_Q]; done) | (go_simp; done) | (simp [go_sem, k_P_0, k_P_1, k_P_2, k_Q_0, k_Q_1, k_Q_2, f_P, f_Q, hl_P, hl_Q]; done))
  replace k_Q_2 : W6.cell? ⟨wb.heap.size, 2, none⟩ = some (.slice rq2 (nlen (p).den) cq2) := by rw [← hW]; (first | with_reducible exact k_Q_2 | (simp [go_sem, k_Q_2]; done) | (simp [go_sem, k_Q_2, hl_Q]; done) | (go_simp; done) | (simp [go_sem, k_P_0, k_P_1, k_P_2, k_Q_0, k_Q_1, k_Q_2, f_P, f_Q, hl_P, hl_Q]; done))
  replace f_Q : ∀ o, W6.frozen? ⟨wb.heap.size, o, none⟩ = false := by intro o; rw [← hW]; (first | with_reducible exact f_Q o | (simp [go_sem, f_Q]; done) | (simp [go_sem, f_Q, hl_Q]; done) | (go_simp; done) | (simp [go_sem, k_P_0, k_P_1, k_P_2, k_Q_0, k_Q_1, k_Q_2, f_P, f_Q, hl_P, hl_Q]; done))
  replace HX_Q := Lib.hid (show Bn W6 (wb.heap.size) by rw [← hW]; exact KpA)
  replace HU1 := Lib.hid (HU1.out.keep HK_W6.out)
  replace HU2 := Lib.hid (HU2.out.keep HK_W6.out)
  replace HB := Lib.hid (show Below w.heap.size w W6 by rw [← hW]; exact BlA)
  replace hN : N ≤ W6.heap.size := by rw [← hW]; (first | omega | (simp; done) | (simp; omega))
  replace hs0 : w.heap.size ≤ W6.heap.size := by rw [← hW]; (first | omega | (simp; done) | (simp; omega))
  replace hl_P : wa.heap.size < W6.heap.size := by rw [← hW]; (first | omega | (simp; done) | (simp; omega))
  replace hl_Q : wb.heap.size < W6.heap.size := by rw [← hW]; (first | omega | (simp; done) | (simp; omega))
  clear hW HK_W6
  refine (sign_ok (N := N) y x _ hN hy hx p9 HP9'.out).mono ?_
  rintro e wf ⟨rv, cv, rv2, cv2, rfl, hn, hn', hb⟩
  have hs_wf : W6.heap.size ≤ wf.heap.size := hb.size
  replace k_P_0 : wf.cell? ⟨wa.heap.size, 0, none⟩ = some (.bool (decide ((p9).num < 0))) := (hb.cell (p := ⟨wa.heap.size, 0, none⟩) hl_P).trans k_P_0
  replace k_P_1 : wf.cell? ⟨wa.heap.size, 1, none⟩ = some (.slice ru (nlen (p9).num.natAbs) cu) := (hb.cell (p := ⟨wa.heap.size, 1, none⟩) hl_P).trans k_P_1
  replace k_P_2 : wf.cell? ⟨wa.heap.size, 2, none⟩ = some (.slice ru2 (nlen (p9).den) cu2) := (hb.cell (p := ⟨wa.heap.size, 2, none⟩) hl_P).trans k_P_2
  replace f_P : ∀ o, wf.frozen? ⟨wa.heap.size, o, none⟩ = false := fun o => (hb.frozen (p := ⟨wa.heap.size, o, none⟩) hl_P).trans (f_P o)
  replace HX_P := Lib.hid (HX_P.out.below hb)
  replace k_Q_0 : wf.cell? ⟨wb.heap.size, 0, none⟩ = some (.bool (decide ((p).num < 0))) := (hb.cell (p := ⟨wb.heap.size, 0, none⟩) hl_Q).trans k_Q_0
  replace k_Q_1 : wf.cell? ⟨wb.heap.size, 1, none⟩ = some (.slice rq (nlen (p).num.natAbs) cq) := (hb.cell (p := ⟨wb.heap.size, 1, none⟩) hl_Q).trans k_Q_1
  replace k_Q_2 : wf.cell? ⟨wb.heap.size, 2, none⟩ = some (.slice rq2 (nlen (p).den) cq2) := (hb.cell (p := ⟨wb.heap.size, 2, none⟩) hl_Q).trans k_Q_2
  replace f_Q : ∀ o, wf.frozen? ⟨wb.heap.size, o, none⟩ = false := fun o => (hb.frozen (p := ⟨wb.heap.size, o, none⟩) hl_Q).trans (f_Q o)
  replace HX_Q := Lib.hid (HX_Q.out.below hb)
  replace HU1 := Lib.hid (HU1.out.below hb)
  replace HU2 := Lib.hid (HU2.out.below hb)
  replace HB := Lib.hid (HB.out.trans (hb.mono hs0))
  replace hN : N ≤ wf.heap.size := Nat.le_trans hN hb.size
  replace hs0 : w.heap.size ≤ wf.heap.size := Nat.le_trans hs0 hb.size
  replace hl_P : wa.heap.size < wf.heap.size := Nat.lt_of_lt_of_le hl_P hb.size
  replace hl_Q : wb.heap.size < wf.heap.size := Nat.lt_of_lt_of_le hl_Q hb.size
  clear hb
  have HV1 := Lib.hid hn
  clear hn
  have HV2 := Lib.hid hn'
  clear hn'
  go_wp2_with fail
  refine region_name fun W7 hW => ?_
  have hs_W7 : wf.heap.size ≤ W7.heap.size := by rw [← hW]; (first | omega | (simp; done) | (simp; omega))
  have HK_W7 := Lib.hid (show Kp N wf W7 by rw [← hW]; exact KpA)
  replace k_P_0 : W7.cell? ⟨wa.heap.size, 0, none⟩ = some (.bool (decide ((p9).num < 0))) := by rw [← hW]; (first | with_reducible exact k_P_0 | (simp [go_sem, k_P_0]; done) | (simp [go_sem, k_P_0, hl_P]; done) | (go_simp; done) | (simp [go_sem, k_P_0, k_P_1, k_P_2, k_Q_0, k_Q_1, k_Q_2, f_P, f_Q, hl_P, hl_Q]; done))
  replace k_P_1 : W7.cell? ⟨wa.heap.size, 1, none⟩ = some (.slice ru (nlen (p9).num.natAbs) cu) := by rw [← hW]; (first | with_reducible exact k_P_1 | (simp [go_sem, k_P_1]; done) | (simp [go_sem, k_P_1, hl_P]; done) | (go_simp; done) | (simp [go_sem, k_P_0, k_P_1, k_P_2, k_Q_0, k_Q_1, k_Q_2, f_P, f_Q, hl_P, hl_Q]; done))
  replace k_P_2 : W7.cell? ⟨wa.heap.size, 2, none⟩ = some (.slice ru2 (nlen (p9).den) cu2) := by rw [← hW]; (first | with_reducible exact k_P_2 | (simp [go_sem, k_P_2]; done) | (simp [go_sem, k_P_2, hl_P]; done) | (go_simp; done) | (simp [go_sem, k_P_0, k_P_1, k_P_2, k_Q_0, k_Q_1, k_Q_2, f_P, f_Q, hl_P, hl_Q]; done))
  replace f_P : ∀ o, W7.frozen? ⟨wa.heap.size, o, none⟩ = false := by intro o; rw [← hW]; (first | with_reducible exact f_P o | (simp [go_sem, f_P]; done) | (simp [go_sem, f_P, hl_P]; done) | (go_simp; done) | (simp [go_sem, k_P_0, k_P_1, k_P_2, k_Q_0, k_Q_1, k_Q_2, f_P, f_Q, hl_P, hl_Q]; done))
  replace HX_P := Lib.hid (show Bn W7 (wa.heap.size) by rw [← hW]; exact KpA)
  replace k_Q_0 : W7.cell? ⟨wb.heap.size, 0, none⟩ = some (.bool (decide ((p9).num < 0))) := by rw [← hW]; (first | (go_simp; done) | (simp [go_sem, k_Q_0]; done) | (simp [go_sem, k_Q_0, k_Q_1, k_Q_2]; done) | (simp [go_sem, k_P_0, k_P_1, k_P_2, k_Q_0, k_Q_1, k_Q_2, f_P, f_Q, hl_P, hl_Q]; done))
  replace k_Q_1 : W7.cell? ⟨wb.heap.size, 1, none⟩ = some (.slice rv (nlen (p9).num.natAbs) cv) := by rw [← hW]; (first | (go_simp; done) | (simp [go_sem, k_Q_1]; done) | (simp [go_sem, k_Q_0, k_Q_1, k_Q_2]; done) | (simp [go_sem, k_P_0, k_P_1, k_P_2, k_Q_0, k_Q_1, k_Q_2, f_P, f_Q, hl_P, hl_Q]; done))
  replace k_Q_2 : W7.cell? ⟨wb.heap.size, 2, none⟩ = some (.slice rv2 (nlen (p9).den) cv2) := by rw [← hW]; (first | (go_simp; done) | (simp [go_sem, k_Q_2]; done) | (simp [go_sem, k_Q_0, k_Q_1, k_Q_2]; done) | (simp [go_sem, k_P_0, k_P_1, k_P_2, k_Q_0, k_Q_1, k_Q_2, f_P, f_Q, hl_P, hl_Q]; done))
  replace f_Q : ∀ o, W7.frozen? ⟨wb.heap.size, o, none⟩ = false := by intro o; rw [← hW]; (first | with_reducible exact f_Q o | (simp [go_sem, f_Q]; done) | (simp [go_sem, f_Q, hl_Q]; done) | (go_simp; done) | (simp [go_sem, k_P_0, k_P_1, k_P_2, k_Q_0, k_Q_1, k_Q_2, f_P, f_Q, hl_P, hl_Q]; done))
  replace HX_Q := Lib.hid (show Bn W7 (wb.heap.size) by rw [← hW]; exact KpA)
  replace HU1 := Lib.hid (HU1.out.keep HK_W7.out)
  replace HU2 := Lib.hid (HU2.out.keep HK_W7.out)
  replace HV1 := Lib.hid (HV1.out.keep HK_W7.out)
  replace HV2 := Lib.hid (HV2.out.keep HK_W7.out)
  replace HB := Lib.hid (show Below w.heap.size w W7 by rw [← hW]; exact BlA)
  replace hN : N ≤ W7.heap.size := by rw [← hW]; (first | omega | (simp; done) | (simp; omega))
  replace hs0 : w.heap.size ≤ W7.heap.size := by rw [← hW]; (first | omega | (simp; done) | (simp; omega))
  replace hl_P : wa.heap.size < W7.heap.size := by rw [← hW]; (first | omega | (simp; done) | (simp; omega))
  replace hl_Q : wb.heap.size < W7.heap.size := by rw [← hW]; (first | omega | (simp; done) | (simp; omega))
  clear hW HK_W7
  go_region_held3 (fun w' => w'.cell? ⟨wa.heap.size, 0, none⟩ = some (.bool (decide ((p9).num < 0))) ∧ w'.cell? ⟨wa.heap.size, 1, none⟩ = some (.slice ru (nlen (p9).num.natAbs) cu) ∧ w'.cell? ⟨wa.heap.size, 2, none⟩ = some (.slice ru2 (nlen (p9).den) cu2))
    (first | (go_keep; done) | ((try dsimp only); (repeat' apply And.intro) <;> (first | (go_keep; done) | (exact cell_keep_alloc_drew (by first | omega | (simp; omega)) (by first | assumption | go_simp)) | (exact cell_keep_alloc (by first | omega | (simp; omega)) (by first | assumption | go_simp)) | (rw [cell_set2 _ _ _ _ _ _ _ _ (by omega)]; assumption) | (rw [cell_set3 _ _ _ _ _ _ _ _ _ _ (by omega)]; assumption))))
    (first
      | (go_at_call 13; refine (rsign_any (N := N) _ _ _ _ _ _ _ 122 p9 _ (by exact hN) (by exact Rt.of_norm HU1.out HU2.out 122 HZy.out)).mono ?_; rw [HSGy.out]; rintro e way ⟨rfl, hb⟩; replace hb : Below W7.heap.size W7 way := (by first | exact hb | exact bel_of_drew hb); have hs_way : W7.heap.size ≤ way.heap.size := hb.size; replace k_P_0 : way.cell? ⟨wa.heap.size, 0, none⟩ = some (.bool (decide ((p9).num < 0))) := (hb.cell (p := ⟨wa.heap.size, 0, none⟩) hl_P).trans k_P_0; replace k_P_1 : way.cell? ⟨wa.heap.size, 1, none⟩ = some (.slice ru (nlen (p9).num.natAbs) cu) := (hb.cell (p := ⟨wa.heap.size, 1, none⟩) hl_P).trans k_P_1; replace k_P_2 : way.cell? ⟨wa.heap.size, 2, none⟩ = some (.slice ru2 (nlen (p9).den) cu2) := (hb.cell (p := ⟨wa.heap.size, 2, none⟩) hl_P).trans k_P_2; replace f_P : ∀ o, way.frozen? ⟨wa.heap.size, o, none⟩ = false := fun o => (hb.frozen (p := ⟨wa.heap.size, o, none⟩) hl_P).trans (f_P o); replace HX_P := Lib.hid (HX_P.out.below hb); replace k_Q_0 : way.cell? ⟨wb.heap.size, 0, none⟩ = some (.bool (decide ((p9).num < 0))) := (hb.cell (p := ⟨wb.heap.size, 0, none⟩) hl_Q).trans k_Q_0; replace k_Q_1 : way.cell? ⟨wb.heap.size, 1, none⟩ = some (.slice rv (nlen (p9).num.natAbs) cv) := (hb.cell (p := ⟨wb.heap.size, 1, none⟩) hl_Q).trans k_Q_1; replace k_Q_2 : way.cell? ⟨wb.heap.size, 2, none⟩ = some (.slice rv2 (nlen (p9).den) cv2) := (hb.cell (p := ⟨wb.heap.size, 2, none⟩) hl_Q).trans k_Q_2; replace f_Q : ∀ o, way.frozen? ⟨wb.heap.size, o, none⟩ = false := fun o => (hb.frozen (p := ⟨wb.heap.size, o, none⟩) hl_Q).trans (f_Q o); replace HX_Q := Lib.hid (HX_Q.out.below hb); replace HU1 := Lib.hid (HU1.out.below hb); replace HU2 := Lib.hid (HU2.out.below hb); replace HV1 := Lib.hid (HV1.out.below hb); replace HV2 := Lib.hid (HV2.out.below hb); replace HB := Lib.hid (HB.out.trans (hb.mono hs0)); replace hN : N ≤ way.heap.size := Nat.le_trans hN hb.size; replace hs0 : w.heap.size ≤ way.heap.size := Nat.le_trans hs0 hb.size; replace hl_P : wa.heap.size < way.heap.size := Nat.lt_of_lt_of_le hl_P hb.size; replace hl_Q : wb.heap.size < way.heap.size := Nat.lt_of_lt_of_le hl_Q hb.size; clear hb; skip)
      | (go_at_call 20; refine (dpart_any (N := N) 1 1 _ (by exact hN) (by decide) (by decide) _ rfl).mono ?_; rintro e wby ⟨ray, day, rfl, hn, hb⟩; replace hb : Below way.heap.size way wby := (by first | exact hb | exact bel_of_drew hb); have hs_wby : way.heap.size ≤ wby.heap.size := hb.size; replace k_P_0 : wby.cell? ⟨wa.heap.size, 0, none⟩ = some (.bool (decide ((p9).num < 0))) := (hb.cell (p := ⟨wa.heap.size, 0, none⟩) hl_P).trans k_P_0; replace k_P_1 : wby.cell? ⟨wa.heap.size, 1, none⟩ = some (.slice ru (nlen (p9).num.natAbs) cu) := (hb.cell (p := ⟨wa.heap.size, 1, none⟩) hl_P).trans k_P_1; replace k_P_2 : wby.cell? ⟨wa.heap.size, 2, none⟩ = some (.slice ru2 (nlen (p9).den) cu2) := (hb.cell (p := ⟨wa.heap.size, 2, none⟩) hl_P).trans k_P_2; replace f_P : ∀ o, wby.frozen? ⟨wa.heap.size, o, none⟩ = false := fun o => (hb.frozen (p := ⟨wa.heap.size, o, none⟩) hl_P).trans (f_P o); replace HX_P := Lib.hid (HX_P.out.below hb); replace k_Q_0 : wby.cell? ⟨wb.heap.size, 0, none⟩ = some (.bool (decide ((p9).num < 0))) := (hb.cell (p := ⟨wb.heap.size, 0, none⟩) hl_Q).trans k_Q_0; replace k_Q_1 : wby.cell? ⟨wb.heap.size, 1, none⟩ = some (.slice rv (nlen (p9).num.natAbs) cv) := (hb.cell (p := ⟨wb.heap.size, 1, none⟩) hl_Q).trans k_Q_1; replace k_Q_2 : wby.cell? ⟨wb.heap.size, 2, none⟩ = some (.slice rv2 (nlen (p9).den) cv2) := (hb.cell (p := ⟨wb.heap.size, 2, none⟩) hl_Q).trans k_Q_2; replace f_Q : ∀ o, wby.frozen? ⟨wb.heap.size, o, none⟩ = false := fun o => (hb.frozen (p := ⟨wb.heap.size, o, none⟩) hl_Q).trans (f_Q o); replace HX_Q := Lib.hid (HX_Q.out.below hb); replace HU1 := Lib.hid (HU1.out.below hb); replace HU2 := Lib.hid (HU2.out.below hb); replace HV1 := Lib.hid (HV1.out.below hb); replace HV2 := Lib.hid (HV2.out.below hb); replace HB := Lib.hid (HB.out.trans (hb.mono hs0)); replace hN : N ≤ wby.heap.size := Nat.le_trans hN hb.size; replace hs0 : w.heap.size ≤ wby.heap.size := Nat.le_trans hs0 hb.size; replace hl_P : wa.heap.size < wby.heap.size := Nat.lt_of_lt_of_le hl_P hb.size; replace hl_Q : wb.heap.size < wby.heap.size := Nat.lt_of_lt_of_le hl_Q hb.size; clear hb; have HQO := Lib.hid hn; clear hn; skip)
      | (go_at_call 12; refine (rcmp_any (N := N) _ _ _ _ _ _ _ _ _ _ _ _ _ _ 122 1 p9 (frq 1 1) _ (by exact hN) (by exact Rt.of_norm HU1.out HU2.out 122 HZy.out) (by exact HQO.out) (by omega) (by omega)).mono ?_; rw [HKy.out]; rintro e wcy ⟨rfl, hb⟩; replace hb : Below wby.heap.size wby wcy := (by first | exact hb | exact bel_of_drew hb); have hs_wcy : wby.heap.size ≤ wcy.heap.size := hb.size; replace k_P_0 : wcy.cell? ⟨wa.heap.size, 0, none⟩ = some (.bool (decide ((p9).num < 0))) := (hb.cell (p := ⟨wa.heap.size, 0, none⟩) hl_P).trans k_P_0; replace k_P_1 : wcy.cell? ⟨wa.heap.size, 1, none⟩ = some (.slice ru (nlen (p9).num.natAbs) cu) := (hb.cell (p := ⟨wa.heap.size, 1, none⟩) hl_P).trans k_P_1; replace k_P_2 : wcy.cell? ⟨wa.heap.size, 2, none⟩ = some (.slice ru2 (nlen (p9).den) cu2) := (hb.cell (p := ⟨wa.heap.size, 2, none⟩) hl_P).trans k_P_2; replace f_P : ∀ o, wcy.frozen? ⟨wa.heap.size, o, none⟩ = false := fun o => (hb.frozen (p := ⟨wa.heap.size, o, none⟩) hl_P).trans (f_P o); replace HX_P := Lib.hid (HX_P.out.below hb); replace k_Q_0 : wcy.cell? ⟨wb.heap.size, 0, none⟩ = some (.bool (decide ((p9).num < 0))) := (hb.cell (p := ⟨wb.heap.size, 0, none⟩) hl_Q).trans k_Q_0; replace k_Q_1 : wcy.cell? ⟨wb.heap.size, 1, none⟩ = some (.slice rv (nlen (p9).num.natAbs) cv) := (hb.cell (p := ⟨wb.heap.size, 1, none⟩) hl_Q).trans k_Q_1; replace k_Q_2 : wcy.cell? ⟨wb.heap.size, 2, none⟩ = some (.slice rv2 (nlen (p9).den) cv2) := (hb.cell (p := ⟨wb.heap.size, 2, none⟩) hl_Q).trans k_Q_2; replace f_Q : ∀ o, wcy.frozen? ⟨wb.heap.size, o, none⟩ = false := fun o => (hb.frozen (p := ⟨wb.heap.size, o, none⟩) hl_Q).trans (f_Q o); replace HX_Q := Lib.hid (HX_Q.out.below hb); replace HU1 := Lib.hid (HU1.out.below hb); replace HU2 := Lib.hid (HU2.out.below hb); replace HV1 := Lib.hid (HV1.out.below hb); replace HV2 := Lib.hid (HV2.out.below hb); replace HQO := Lib.hid (HQO.out.below hb); replace HB := Lib.hid (HB.out.trans (hb.mono hs0)); replace hN : N ≤ wcy.heap.size := Nat.le_trans hN hb.size; replace hs0 : w.heap.size ≤ wcy.heap.size := Nat.le_trans hs0 hb.size; replace hl_P : wa.heap.size < wcy.heap.size := Nat.lt_of_lt_of_le hl_P hb.size; replace hl_Q : wb.heap.size < wcy.heap.size := Nat.lt_of_lt_of_le hl_Q hb.size; clear hb; skip))
  clear HQO
  go_wp2_with fail
  refine calls_name fun W8 hW => ?_
  have HL_W8 := Lib.hid (show Below wcy.heap.size wcy W8 by rw [← hW]; exact BlA)
  have hs_W8 : wcy.heap.size ≤ W8.heap.size := by rw [← hW]; (first | omega | (simp; done) | (simp; omega))
  have HK_W8 := Lib.hid (show Kp N wcy W8 by rw [← hW]; exact KpA)
  replace k_P_0 : W8.cell? ⟨wa.heap.size, 0, none⟩ = some (.bool (decide ((p9).num < 0))) := (HL_W8.out.cell (p := ⟨wa.heap.size, 0, none⟩) hl_P).trans k_P_0
  replace k_P_1 : W8.cell? ⟨wa.heap.size, 1, none⟩ = some (.slice ru (nlen (p9).num.natAbs) cu) := (HL_W8.out.cell (p := ⟨wa.heap.size, 1, none⟩) hl_P).trans k_P_1
  replace k_P_2 : W8.cell? ⟨wa.heap.size, 2, none⟩ = some (.slice ru2 (nlen (p9).den) cu2) := (HL_W8.out.cell (p := ⟨wa.heap.size, 2, none⟩) hl_P).trans k_P_2
  replace f_P : ∀ o, W8.frozen? ⟨wa.heap.size, o, none⟩ = false := fun o => (HL_W8.out.frozen (p := ⟨wa.heap.size, o, none⟩) hl_P).trans (f_P o)
  replace HX_P := Lib.hid (show Bn W8 (wa.heap.size) by rw [← hW]; exact KpA)
  replace k_Q_0 : W8.cell? ⟨wb.heap.size, 0, none⟩ = some (.bool (decide ((p9).num < 0))) := (HL_W8.out.cell (p := ⟨wb.heap.size, 0, none⟩) hl_Q).trans k_Q_0
  replace k_Q_1 : W8.cell? ⟨wb.heap.size, 1, none⟩ = some (.slice rv (nlen (p9).num.natAbs) cv) := (HL_W8.out.cell (p := ⟨wb.heap.size, 1, none⟩) hl_Q).trans k_Q_1
  replace k_Q_2 : W8.cell? ⟨wb.heap.size, 2, none⟩ = some (.slice rv2 (nlen (p9).den) cv2) := (HL_W8.out.cell (p := ⟨wb.heap.size, 2, none⟩) hl_Q).trans k_Q_2
  replace f_Q : ∀ o, W8.frozen? ⟨wb.heap.size, o, none⟩ = false := fun o => (HL_W8.out.frozen (p := ⟨wb.heap.size, o, none⟩) hl_Q).trans (f_Q o)
  replace HX_Q := Lib.hid (show Bn W8 (wb.heap.size) by rw [← hW]; exact KpA)
  replace HU1 := Lib.hid (HU1.out.keep HK_W8.out)
  replace HU2 := Lib.hid (HU2.out.keep HK_W8.out)
  replace HV1 := Lib.hid (HV1.out.keep HK_W8.out)
  replace HV2 := Lib.hid (HV2.out.keep HK_W8.out)
  replace HB := Lib.hid (show Below w.heap.size w W8 by rw [← hW]; exact BlA)
  replace hN : N ≤ W8.heap.size := by rw [← hW]; (first | omega | (simp; done) | (simp; omega))
  replace hs0 : w.heap.size ≤ W8.heap.size := by rw [← hW]; (first | omega | (simp; done) | (simp; omega))
  replace hl_P : wa.heap.size < W8.heap.size := by rw [← hW]; (first | omega | (simp; done) | (simp; omega))
  replace hl_Q : wb.heap.size < W8.heap.size := by rw [← hW]; (first | omega | (simp; done) | (simp; omega))
  clear HL_W8
  clear hW HK_W8
  refine (SameRatio_any (N := N) _ _ _ _ _ _ _ _ _ _ _ _ _ _ hN HU1.out HV1.out HU2.out HV2.out).mono ?_
  rintro e wg ⟨rfl, hb⟩
  have hs_wg : W8.heap.size ≤ wg.heap.size := hb.size
  replace k_P_0 : wg.cell? ⟨wa.heap.size, 0, none⟩ = some (.bool (decide ((p9).num < 0))) := (hb.cell (p := ⟨wa.heap.size, 0, none⟩) hl_P).trans k_P_0
  replace k_P_1 : wg.cell? ⟨wa.heap.size, 1, none⟩ = some (.slice ru (nlen (p9).num.natAbs) cu) := (hb.cell (p := ⟨wa.heap.size, 1, none⟩) hl_P).trans k_P_1
  replace k_P_2 : wg.cell? ⟨wa.heap.size, 2, none⟩ = some (.slice ru2 (nlen (p9).den) cu2) := (hb.cell (p := ⟨wa.heap.size, 2, none⟩) hl_P).trans k_P_2
  replace f_P : ∀ o, wg.frozen? ⟨wa.heap.size, o, none⟩ = false := fun o => (hb.frozen (p := ⟨wa.heap.size, o, none⟩) hl_P).trans (f_P o)
  replace HX_P := Lib.hid (HX_P.out.below hb)
  replace k_Q_0 : wg.cell? ⟨wb.heap.size, 0, none⟩ = some (.bool (decide ((p9).num < 0))) := (hb.cell (p := ⟨wb.heap.size, 0, none⟩) hl_Q).trans k_Q_0
  replace k_Q_1 : wg.cell? ⟨wb.heap.size, 1, none⟩ = some (.slice rv (nlen (p9).num.natAbs) cv) := (hb.cell (p := ⟨wb.heap.size, 1, none⟩) hl_Q).trans k_Q_1
  replace k_Q_2 : wg.cell? ⟨wb.heap.size, 2, none⟩ = some (.slice rv2 (nlen (p9).den) cv2) := (hb.cell (p := ⟨wb.heap.size, 2, none⟩) hl_Q).trans k_Q_2
  replace f_Q : ∀ o, wg.frozen? ⟨wb.heap.size, o, none⟩ = false := fun o => (hb.frozen (p := ⟨wb.heap.size, o, none⟩) hl_Q).trans (f_Q o)
  replace HX_Q := Lib.hid (HX_Q.out.below hb)
  replace HU1 := Lib.hid (HU1.out.below hb)
  replace HU2 := Lib.hid (HU2.out.below hb)
  replace HV1 := Lib.hid (HV1.out.below hb)
  replace HV2 := Lib.hid (HV2.out.below hb)
  replace HB := Lib.hid (HB.out.trans (hb.mono hs0))
  replace hN : N ≤ wg.heap.size := Nat.le_trans hN hb.size
  replace hs0 : w.heap.size ≤ wg.heap.size := Nat.le_trans hs0 hb.size
  replace hl_P : wa.heap.size < wg.heap.size := Nat.lt_of_lt_of_le hl_P hb.size
  replace hl_Q : wb.heap.size < wg.heap.size := Nat.lt_of_lt_of_le hl_Q hb.size
  clear hb
  go_wp2_with fail
  refine calls_name fun W9 hW => ?_
  have HL_W9 := Lib.hid (show Below wg.heap.size wg W9 by rw [← hW]; exact BlA)
  have hs_W9 : wg.heap.size ≤ W9.heap.size := by rw [← hW]; (first | omega | (simp; done) | (simp; omega))
  have HK_W9 := Lib.hid (show Kp N wg W9 by rw [← hW]; exact KpA)
  replace k_P_0 : W9.cell? ⟨wa.heap.size, 0, none⟩ = some (.bool (decide ((p9).num < 0))) := (HL_W9.out.cell (p := ⟨wa.heap.size, 0, none⟩) hl_P).trans k_P_0
  replace k_P_1 : W9.cell? ⟨wa.heap.size, 1, none⟩ = some (.slice ru (nlen (p9).num.natAbs) cu) := (HL_W9.out.cell (p := ⟨wa.heap.size, 1, none⟩) hl_P).trans k_P_1
  replace k_P_2 : W9.cell? ⟨wa.heap.size, 2, none⟩ = some (.slice ru2 (nlen (p9).den) cu2) := (HL_W9.out.cell (p := ⟨wa.heap.size, 2, none⟩) hl_P).trans k_P_2
  replace f_P : ∀ o, W9.frozen? ⟨wa.heap.size, o, none⟩ = false := fun o => (HL_W9.out.frozen (p := ⟨wa.heap.size, o, none⟩) hl_P).trans (f_P o)
  replace HX_P := Lib.hid (show Bn W9 (wa.heap.size) by rw [← hW]; exact KpA)
  replace k_Q_0 : W9.cell? ⟨wb.heap.size, 0, none⟩ = some (.bool (decide ((p9).num < 0))) := (HL_W9.out.cell (p := ⟨wb.heap.size, 0, none⟩) hl_Q).trans k_Q_0
  replace k_Q_1 : W9.cell? ⟨wb.heap.size, 1, none⟩ = some (.slice rv (nlen (p9).num.natAbs) cv) := (HL_W9.out.cell (p := ⟨wb.heap.size, 1, none⟩) hl_Q).trans k_Q_1
  replace k_Q_2 : W9.cell? ⟨wb.heap.size, 2, none⟩ = some (.slice rv2 (nlen (p9).den) cv2) := (HL_W9.out.cell (p := ⟨wb.heap.size, 2, none⟩) hl_Q).trans k_Q_2
  replace f_Q : ∀ o, W9.frozen? ⟨wb.heap.size, o, none⟩ = false := fun o => (HL_W9.out.frozen (p := ⟨wb.heap.size, o, none⟩) hl_Q).trans (f_Q o)
  replace HX_Q := Lib.hid (show Bn W9 (wb.heap.size) by rw [← hW]; exact KpA)
  replace HU1 := Lib.hid (HU1.out.keep HK_W9.out)
  replace HU2 := Lib.hid (HU2.out.keep HK_W9.out)
  replace HV1 := Lib.hid (HV1.out.keep HK_W9.out)
  replace HV2 := Lib.hid (HV2.out.keep HK_W9.out)
  replace HB := Lib.hid (show Below w.heap.size w W9 by rw [← hW]; exact BlA)
  replace hN : N ≤ W9.heap.size := by rw [← hW]; (first | omega | (simp; done) | (simp; omega))
  replace hs0 : w.heap.size ≤ W9.heap.size := by rw [← hW]; (first | omega | (simp; done) | (simp; omega))
  replace hl_P : wa.heap.size < W9.heap.size := by rw [← hW]; (first | omega | (simp; done) | (simp; omega))
  replace hl_Q : wb.heap.size < W9.heap.size := by rw [← hW]; (first | omega | (simp; done) | (simp; omega))
  clear HL_W9
  clear hW HK_W9
  refine (dawake_any (N := N) _ hN (HTw.out.below HB.out)).mono ?_
  rintro e wh ⟨rfl, hb⟩
  have hs_wh : W9.heap.size ≤ wh.heap.size := hb.size
  replace k_P_0 : wh.cell? ⟨wa.heap.size, 0, none⟩ = some (.bool (decide ((p9).num < 0))) := (hb.cell (p := ⟨wa.heap.size, 0, none⟩) hl_P).trans k_P_0
  replace k_P_1 : wh.cell? ⟨wa.heap.size, 1, none⟩ = some (.slice ru (nlen (p9).num.natAbs) cu) := (hb.cell (p := ⟨wa.heap.size, 1, none⟩) hl_P).trans k_P_1
  replace k_P_2 : wh.cell? ⟨wa.heap.size, 2, none⟩ = some (.slice ru2 (nlen (p9).den) cu2) := (hb.cell (p := ⟨wa.heap.size, 2, none⟩) hl_P).trans k_P_2
  replace f_P : ∀ o, wh.frozen? ⟨wa.heap.size, o, none⟩ = false := fun o => (hb.frozen (p := ⟨wa.heap.size, o, none⟩) hl_P).trans (f_P o)
  replace HX_P := Lib.hid (HX_P.out.below hb)
  replace k_Q_0 : wh.cell? ⟨wb.heap.size, 0, none⟩ = some (.bool (decide ((p9).num < 0))) := (hb.cell (p := ⟨wb.heap.size, 0, none⟩) hl_Q).trans k_Q_0
  replace k_Q_1 : wh.cell? ⟨wb.heap.size, 1, none⟩ = some (.slice rv (nlen (p9).num.natAbs) cv) := (hb.cell (p := ⟨wb.heap.size, 1, none⟩) hl_Q).trans k_Q_1
  replace k_Q_2 : wh.cell? ⟨wb.heap.size, 2, none⟩ = some (.slice rv2 (nlen (p9).den) cv2) := (hb.cell (p := ⟨wb.heap.size, 2, none⟩) hl_Q).trans k_Q_2
  replace f_Q : ∀ o, wh.frozen? ⟨wb.heap.size, o, none⟩ = false := fun o => (hb.frozen (p := ⟨wb.heap.size, o, none⟩) hl_Q).trans (f_Q o)
  replace HX_Q := Lib.hid (HX_Q.out.below hb)
  replace HU1 := Lib.hid (HU1.out.below hb)
  replace HU2 := Lib.hid (HU2.out.below hb)
  replace HV1 := Lib.hid (HV1.out.below hb)
  replace HV2 := Lib.hid (HV2.out.below hb)
  replace HB := Lib.hid (HB.out.trans (hb.mono hs0))
  replace hN : N ≤ wh.heap.size := Nat.le_trans hN hb.size
  replace hs0 : w.heap.size ≤ wh.heap.size := Nat.le_trans hs0 hb.size
  replace hl_P : wa.heap.size < wh.heap.size := Nat.lt_of_lt_of_le hl_P hb.size
  replace hl_Q : wb.heap.size < wh.heap.size := Nat.lt_of_lt_of_le hl_Q hb.size
  clear hb
  go_wp2_with fail
  go_ret
  exact ⟨rfl, HB.out⟩

set_option maxHeartbeats 8000000 in
set_option maxRecDepth 100000 in
theorem dsym_yn {N : Nat} (a b c d : Nat) (ha : a ≤ 30) (hb : b ≤ 30) (hc : c ≤ 30) (hd : d ≤ 30) (x y : Int) (hbad : x < 0 ∨ 60 < x ∨ y < 0 ∨ 60 < y) (w : World) (hN : N ≤ w.heap.size) (htab : TabW w) :
    Calls Tryd.prog 5 #[.agg #[.int .i64 ((a : Nat) : Int), .int .i64 ((b : Nat) : Int), .int .i64 ((c : Nat) : Int), .int .i64 ((d : Nat) : Int)], .int .i64 x, .int .i64 y] w fun e w' => e = .returned (.bool true) ∧ Below w.heap.size w w' := by
  obtain ⟨p, hp⟩ : ∃ p, fishQ a b c d = p := ⟨_, rfl⟩
  have hrg : 0 < p ∧ p ≤ 1 := by rw [← hp]; exact fish_range a b c d (by omega)
  obtain ⟨σx, hσx⟩ : ∃ σ, (p).num.sign = σ := ⟨_, rfl⟩
  obtain ⟨κx, hκx⟩ : ∃ κ, cmpQ p (frq 1 1) = κ := ⟨_, rfl⟩
  have dsx : decide (σx ≤ 0) = false := by rw [← hσx]; exact sgn_pos1 _ (hrg).1
  have dkx : decide (0 < κx) = false := by rw [← hκx]; exact cmp_gt1 _ (hrg).2
  have HSGx := Lib.hid hσx
  have HKx := Lib.hid hκx
  have HZx := Lib.hid (show rsz p ≤ 122 from by rw [← hp]; exact Nat.le_trans (fish_rsz a b c d ha hb hc hd) (by omega))
  clear hσx hκx
  have HP := Lib.hid hp
  have HPg := Lib.hid (show fishQ c d a b = p by rw [fish_groups]; exact hp)
  have HPs := Lib.hid (show fishQ b a d c = p by rw [fish_sides]; exact hp)
  clear hp hrg
  have HTw := Lib.hid htab
  clear htab
  have hN0 := hN
  have HB := Lib.hid (Below.refl w.heap.size w)
  go_enter Tryd.func5, Tryd.ntmps5
  go_wp2_with fail
  refine calls_name fun W0 hW => ?_
  have hs_W0 : w.heap.size ≤ W0.heap.size := by rw [← hW]; (first | omega | (simp; done) | (simp; omega))
  have k_T_0 : W0.cell? ⟨w.heap.size, 0, none⟩ = some (.int .i64 ((a : Nat) : Int)) := by rw [← hW]; (first | (go_simp; done) | (simp; done) | (simp [go_sem]; done) | (simp [go_sem]; done))
  have k_T_1 : W0.cell? ⟨w.heap.size, 1, none⟩ = some (.int .i64 ((b : Nat) : Int)) := by rw [← hW]; (first | (go_simp; done) | (simp; done) | (simp [go_sem]; done) | (simp [go_sem]; done))
  have k_T_2 : W0.cell? ⟨w.heap.size, 2, none⟩ = some (.int .i64 ((c : Nat) : Int)) := by rw [← hW]; (first | (go_simp; done) | (simp; done) | (simp [go_sem]; done) | (simp [go_sem]; done))
  have k_T_3 : W0.cell? ⟨w.heap.size, 3, none⟩ = some (.int .i64 ((d : Nat) : Int)) := by rw [← hW]; (first | (go_simp; done) | (simp; done) | (simp [go_sem]; done) | (simp [go_sem]; done))
  have f_T : ∀ o, W0.frozen? ⟨w.heap.size, o, none⟩ = false := by intro o; rw [← hW]; (first | (go_simp; done) | (simp; done) | (simp [go_sem]; done) | (simp [go_sem]; done))
  have HX_T := Lib.hid (show Bn W0 (w.heap.size) by rw [← hW]; exact KpA)
  replace HB := Lib.hid (show Below w.heap.size w W0 by rw [← hW]; exact BlA)
  replace hN : N ≤ W0.heap.size := by rw [← hW]; (first | omega | (simp; done) | (simp; omega))
  have hs0 : w.heap.size ≤ W0.heap.size := by rw [← hW]; (first | omega | (simp; done) | (simp; omega))
  have hl_T : w.heap.size < W0.heap.size := by rw [← hW]; (first | omega | (simp; done) | (simp; omega))
  clear hW
  refine (fisher_ok (N := N) a b c d _ hN ha hb hc hd p HP.out).mono ?_
  rintro e wa ⟨rp, cp, rp2, cp2, rfl, hn, hn', hb⟩
  have hs_wa : W0.heap.size ≤ wa.heap.size := hb.size
  replace k_T_0 : wa.cell? ⟨w.heap.size, 0, none⟩ = some (.int .i64 ((a : Nat) : Int)) := (hb.cell (p := ⟨w.heap.size, 0, none⟩) hl_T).trans k_T_0
  replace k_T_1 : wa.cell? ⟨w.heap.size, 1, none⟩ = some (.int .i64 ((b : Nat) : Int)) := (hb.cell (p := ⟨w.heap.size, 1, none⟩) hl_T).trans k_T_1
  replace k_T_2 : wa.cell? ⟨w.heap.size, 2, none⟩ = some (.int .i64 ((c : Nat) : Int)) := (hb.cell (p := ⟨w.heap.size, 2, none⟩) hl_T).trans k_T_2
  replace k_T_3 : wa.cell? ⟨w.heap.size, 3, none⟩ = some (.int .i64 ((d : Nat) : Int)) := (hb.cell (p := ⟨w.heap.size, 3, none⟩) hl_T).trans k_T_3
  replace f_T : ∀ o, wa.frozen? ⟨w.heap.size, o, none⟩ = false := fun o => (hb.frozen (p := ⟨w.heap.size, o, none⟩) hl_T).trans (f_T o)
  replace HX_T := Lib.hid (HX_T.out.below hb)
  replace HB := Lib.hid (HB.out.trans (hb.mono hs0))
  replace hN : N ≤ wa.heap.size := Nat.le_trans hN hb.size
  replace hs0 : w.heap.size ≤ wa.heap.size := Nat.le_trans hs0 hb.size
  replace hl_T : w.heap.size < wa.heap.size := Nat.lt_of_lt_of_le hl_T hb.size
  clear hb
  have HP1 := Lib.hid hn
  clear hn
  have HP2 := Lib.hid hn'
  clear hn'
  go_wp2_with fail
  refine calls_name fun W1 hW => ?_
  have HL_W1 := Lib.hid (show Below wa.heap.size wa W1 by rw [← hW]; exact BlA)
  have hs_W1 : wa.heap.size ≤ W1.heap.size := by rw [← hW]; (first | omega | (simp; done) | (simp; omega))
  have hd_T_P : w.heap.size < wa.heap.size := by omega
  have HK_W1 := Lib.hid (show Kp N wa W1 by rw [← hW]; exact KpA)
  replace k_T_0 : W1.cell? ⟨w.heap.size, 0, none⟩ = some (.int .i64 ((a : Nat) : Int)) := (HL_W1.out.cell (p := ⟨w.heap.size, 0, none⟩) hl_T).trans k_T_0
  replace k_T_1 : W1.cell? ⟨w.heap.size, 1, none⟩ = some (.int .i64 ((b : Nat) : Int)) := (HL_W1.out.cell (p := ⟨w.heap.size, 1, none⟩) hl_T).trans k_T_1
  replace k_T_2 : W1.cell? ⟨w.heap.size, 2, none⟩ = some (.int .i64 ((c : Nat) : Int)) := (HL_W1.out.cell (p := ⟨w.heap.size, 2, none⟩) hl_T).trans k_T_2
  replace k_T_3 : W1.cell? ⟨w.heap.size, 3, none⟩ = some (.int .i64 ((d : Nat) : Int)) := (HL_W1.out.cell (p := ⟨w.heap.size, 3, none⟩) hl_T).trans k_T_3
  replace f_T : ∀ o, W1.frozen? ⟨w.heap.size, o, none⟩ = false := fun o => (HL_W1.out.frozen (p := ⟨w.heap.size, o, none⟩) hl_T).trans (f_T o)
  replace HX_T := Lib.hid (show Bn W1 (w.heap.size) by rw [← hW]; exact KpA)
  have k_P_0 : W1.cell? ⟨wa.heap.size, 0, none⟩ = some (.bool (decide ((p).num < 0))) := by rw [← hW]; (first | (go_simp; done) | (simp; done) | (simp [go_sem]; done) | (simp [go_sem, k_T_0, k_T_1, k_T_2, k_T_3, f_T, hl_T]; done))
  have k_P_1 : W1.cell? ⟨wa.heap.size, 1, none⟩ = some (.slice rp (nlen (p).num.natAbs) cp) := by rw [← hW]; (first | (go_simp; done) | (simp; done) | (simp [go_sem]; done) | (simp [go_sem, k_T_0, k_T_1, k_T_2, k_T_3, f_T, hl_T]; done))
  have k_P_2 : W1.cell? ⟨wa.heap.size, 2, none⟩ = some (.slice rp2 (nlen (p).den) cp2) := by rw [← hW]; (first | (go_simp; done) | (simp; done) | (simp [go_sem]; done) | (simp [go_sem, k_T_0, k_T_1, k_T_2, k_T_3, f_T, hl_T]; done))
  have f_P : ∀ o, W1.frozen? ⟨wa.heap.size, o, none⟩ = false := by intro o; rw [← hW]; (first | (go_simp; done) | (simp; done) | (simp [go_sem]; done) | (simp [go_sem, k_T_0, k_T_1, k_T_2, k_T_3, f_T, hl_T]; done))
  have HX_P := Lib.hid (show Bn W1 (wa.heap.size) by rw [← hW]; exact KpA)
  replace HP1 := Lib.hid (HP1.out.keep HK_W1.out)
  replace HP2 := Lib.hid (HP2.out.keep HK_W1.out)
  replace HB := Lib.hid (show Below w.heap.size w W1 by rw [← hW]; exact BlA)
  replace hN : N ≤ W1.heap.size := by rw [← hW]; (first | omega | (simp; done) | (simp; omega))
  replace hs0 : w.heap.size ≤ W1.heap.size := by rw [← hW]; (first | omega | (simp; done) | (simp; omega))
  replace hl_T : w.heap.size < W1.heap.size := by rw [← hW]; (first | omega | (simp; done) | (simp; omega))
  have hl_P : wa.heap.size < W1.heap.size := by rw [← hW]; (first | omega | (simp; done) | (simp; omega))
  clear HL_W1
  clear hW HK_W1
  refine (fisher_ok (N := N) c d a b _ hN hc hd ha hb p HPg.out).mono ?_
  rintro e wb ⟨rq, cq, rq2, cq2, rfl, hn, hn', hb⟩
  have hs_wb : W1.heap.size ≤ wb.heap.size := hb.size
  replace k_T_0 : wb.cell? ⟨w.heap.size, 0, none⟩ = some (.int .i64 ((a : Nat) : Int)) := (hb.cell (p := ⟨w.heap.size, 0, none⟩) hl_T).trans k_T_0
  replace k_T_1 : wb.cell? ⟨w.heap.size, 1, none⟩ = some (.int .i64 ((b : Nat) : Int)) := (hb.cell (p := ⟨w.heap.size, 1, none⟩) hl_T).trans k_T_1
  replace k_T_2 : wb.cell? ⟨w.heap.size, 2, none⟩ = some (.int .i64 ((c : Nat) : Int)) := (hb.cell (p := ⟨w.heap.size, 2, none⟩) hl_T).trans k_T_2
  replace k_T_3 : wb.cell? ⟨w.heap.size, 3, none⟩ = some (.int .i64 ((d : Nat) : Int)) := (hb.cell (p := ⟨w.heap.size, 3, none⟩) hl_T).trans k_T_3
  replace f_T : ∀ o, wb.frozen? ⟨w.heap.size, o, none⟩ = false := fun o => (hb.frozen (p := ⟨w.heap.size, o, none⟩) hl_T).trans (f_T o)
  replace HX_T := Lib.hid (HX_T.out.below hb)
  replace k_P_0 : wb.cell? ⟨wa.heap.size, 0, none⟩ = some (.bool (decide ((p).num < 0))) := (hb.cell (p := ⟨wa.heap.size, 0, none⟩) hl_P).trans k_P_0
  replace k_P_1 : wb.cell? ⟨wa.heap.size, 1, none⟩ = some (.slice rp (nlen (p).num.natAbs) cp) := (hb.cell (p := ⟨wa.heap.size, 1, none⟩) hl_P).trans k_P_1
  replace k_P_2 : wb.cell? ⟨wa.heap.size, 2, none⟩ = some (.slice rp2 (nlen (p).den) cp2) := (hb.cell (p := ⟨wa.heap.size, 2, none⟩) hl_P).trans k_P_2
  replace f_P : ∀ o, wb.frozen? ⟨wa.heap.size, o, none⟩ = false := fun o => (hb.frozen (p := ⟨wa.heap.size, o, none⟩) hl_P).trans (f_P o)
  replace HX_P := Lib.hid (HX_P.out.below hb)
  replace HP1 := Lib.hid (HP1.out.below hb)
  replace HP2 := Lib.hid (HP2.out.below hb)
  replace HB := Lib.hid (HB.out.trans (hb.mono hs0))
  replace hN : N ≤ wb.heap.size := Nat.le_trans hN hb.size
  replace hs0 : w.heap.size ≤ wb.heap.size := Nat.le_trans hs0 hb.size
  replace hl_T : w.heap.size < wb.heap.size := Nat.lt_of_lt_of_le hl_T hb.size
  replace hl_P : wa.heap.size < wb.heap.size := Nat.lt_of_lt_of_le hl_P hb.size
  clear hb
  have HQ1 := Lib.hid hn
  clear hn
  have HQ2 := Lib.hid hn'
  clear hn'
  go_wp2_with fail
  refine calls_name fun W2 hW => ?_
  have HL_W2 := Lib.hid (show Below wb.heap.size wb W2 by rw [← hW]; exact BlA)
  have hs_W2 : wb.heap.size ≤ W2.heap.size := by rw [← hW]; (first | omega | (simp; done) | (simp; omega))
  have hd_T_Q : w.heap.size < wb.heap.size := by omega
  have hd_P_Q : wa.heap.size < wb.heap.size := by omega
  have HK_W2 := Lib.hid (show Kp N wb W2 by rw [← hW]; exact KpA)
  replace k_T_0 : W2.cell? ⟨w.heap.size, 0, none⟩ = some (.int .i64 ((a : Nat) : Int)) := (HL_W2.out.cell (p := ⟨w.heap.size, 0, none⟩) hl_T).trans k_T_0
  replace k_T_1 : W2.cell? ⟨w.heap.size, 1, none⟩ = some (.int .i64 ((b : Nat) : Int)) := (HL_W2.out.cell (p := ⟨w.heap.size, 1, none⟩) hl_T).trans k_T_1
  replace k_T_2 : W2.cell? ⟨w.heap.size, 2, none⟩ = some (.int .i64 ((c : Nat) : Int)) := (HL_W2.out.cell (p := ⟨w.heap.size, 2, none⟩) hl_T).trans k_T_2
  replace k_T_3 : W2.cell? ⟨w.heap.size, 3, none⟩ = some (.int .i64 ((d : Nat) : Int)) := (HL_W2.out.cell (p := ⟨w.heap.size, 3, none⟩) hl_T).trans k_T_3
  replace f_T : ∀ o, W2.frozen? ⟨w.heap.size, o, none⟩ = false := fun o => (HL_W2.out.frozen (p := ⟨w.heap.size, o, none⟩) hl_T).trans (f_T o)
  replace HX_T := Lib.hid (show Bn W2 (w.heap.size) by rw [← hW]; exact KpA)
  replace k_P_0 : W2.cell? ⟨wa.heap.size, 0, none⟩ = some (.bool (decide ((p).num < 0))) := (HL_W2.out.cell (p := ⟨wa.heap.size, 0, none⟩) hl_P).trans k_P_0
  replace k_P_1 : W2.cell? ⟨wa.heap.size, 1, none⟩ = some (.slice rp (nlen (p).num.natAbs) cp) := (HL_W2.out.cell (p := ⟨wa.heap.size, 1, none⟩) hl_P).trans k_P_1
  replace k_P_2 : W2.cell? ⟨wa.heap.size, 2, none⟩ = some (.slice rp2 (nlen (p).den) cp2) := (HL_W2.out.cell (p := ⟨wa.heap.size, 2, none⟩) hl_P).trans k_P_2
  replace f_P : ∀ o, W2.frozen? ⟨wa.heap.size, o, none⟩ = false := fun o => (HL_W2.out.frozen (p := ⟨wa.heap.size, o, none⟩) hl_P).trans (f_P o)
  replace HX_P := Lib.hid (show Bn W2 (wa.heap.size) by rw [← hW]; exact KpA)
  have k_Q_0 : W2.cell? ⟨wb.heap.size, 0, none⟩ = some (.bool (decide ((p).num < 0))) := by rw [← hW]; (first | (go_simp; done) | (simp; done) | (simp [go_sem]; done) | (simp [go_sem, k_T_0, k_T_1, k_T_2, k_T_3, k_P_0, k_P_1, k_P_2, f_T, f_P, hl_T, hl_P]; done))
  have k_Q_1 : W2.cell? ⟨wb.heap.size, 1, none⟩ = some (.slice rq (nlen (p).num.natAbs) cq) := by rw [← hW]; (first | (go_simp; done) | (simp; done) | (simp [go_sem]; done) | (simp [go_sem, k_T_0, k_T_1, k_T_2, k_T_3, k_P_0, k_P_1, k_P_2, f_T, f_P, hl_T, hl_P]; done))
  have k_Q_2 : W2.cell? ⟨wb.heap.size, 2, none⟩ = some (.slice rq2 (nlen (p).den) cq2) := by rw [← hW]; (first | (go_simp; done) | (simp; done) | (simp [go_sem]; done) | (simp [go_sem, k_T_0, k_T_1, k_T_2, k_T_3, k_P_0, k_P_1, k_P_2, f_T, f_P, hl_T, hl_P]; done))
  have f_Q : ∀ o, W2.frozen? ⟨wb.heap.size, o, none⟩ = false := by intro o; rw [← hW]; (first | (go_simp; done) | (simp; done) | (simp [go_sem]; done) | (simp [go_sem, k_T_0, k_T_1, k_T_2, k_T_3, k_P_0, k_P_1, k_P_2, f_T, f_P, hl_T, hl_P]; done))
  have HX_Q := Lib.hid (show Bn W2 (wb.heap.size) by rw [← hW]; exact KpA)
  replace HP1 := Lib.hid (HP1.out.keep HK_W2.out)
  replace HP2 := Lib.hid (HP2.out.keep HK_W2.out)
  replace HQ1 := Lib.hid (HQ1.out.keep HK_W2.out)
  replace HQ2 := Lib.hid (HQ2.out.keep HK_W2.out)
  replace HB := Lib.hid (show Below w.heap.size w W2 by rw [← hW]; exact BlA)
  replace hN : N ≤ W2.heap.size := by rw [← hW]; (first | omega | (simp; done) | (simp; omega))
  replace hs0 : w.heap.size ≤ W2.heap.size := by rw [← hW]; (first | omega | (simp; done) | (simp; omega))
  replace hl_T : w.heap.size < W2.heap.size := by rw [← hW]; (first | omega | (simp; done) | (simp; omega))
  replace hl_P : wa.heap.size < W2.heap.size := by rw [← hW]; (first | omega | (simp; done) | (simp; omega))
  have hl_Q : wb.heap.size < W2.heap.size := by rw [← hW]; (first | omega | (simp; done) | (simp; omega))
  clear HL_W2
  clear hW HK_W2
  refine (fisher_ok (N := N) b a d c _ hN hb ha hd hc p HPs.out).mono ?_
  rintro e wc ⟨rr, cr, rr2, cr2, rfl, hn, hn', hb⟩
  have hs_wc : W2.heap.size ≤ wc.heap.size := hb.size
  replace k_T_0 : wc.cell? ⟨w.heap.size, 0, none⟩ = some (.int .i64 ((a : Nat) : Int)) := (hb.cell (p := ⟨w.heap.size, 0, none⟩) hl_T).trans k_T_0
  replace k_T_1 : wc.cell? ⟨w.heap.size, 1, none⟩ = some (.int .i64 ((b : Nat) : Int)) := (hb.cell (p := ⟨w.heap.size, 1, none⟩) hl_T).trans k_T_1
  replace k_T_2 : wc.cell? ⟨w.heap.size, 2, none⟩ = some (.int .i64 ((c : Nat) : Int)) := (hb.cell (p := ⟨w.heap.size, 2, none⟩) hl_T).trans k_T_2
  replace k_T_3 : wc.cell? ⟨w.heap.size, 3, none⟩ = some (.int .i64 ((d : Nat) : Int)) := (hb.cell (p := ⟨w.heap.size, 3, none⟩) hl_T).trans k_T_3
  replace f_T : ∀ o, wc.frozen? ⟨w.heap.size, o, none⟩ = false := fun o => (hb.frozen (p := ⟨w.heap.size, o, none⟩) hl_T).trans (f_T o)
  replace HX_T := Lib.hid (HX_T.out.below hb)
  replace k_P_0 : wc.cell? ⟨wa.heap.size, 0, none⟩ = some (.bool (decide ((p).num < 0))) := (hb.cell (p := ⟨wa.heap.size, 0, none⟩) hl_P).trans k_P_0
  replace k_P_1 : wc.cell? ⟨wa.heap.size, 1, none⟩ = some (.slice rp (nlen (p).num.natAbs) cp) := (hb.cell (p := ⟨wa.heap.size, 1, none⟩) hl_P).trans k_P_1
  replace k_P_2 : wc.cell? ⟨wa.heap.size, 2, none⟩ = some (.slice rp2 (nlen (p).den) cp2) := (hb.cell (p := ⟨wa.heap.size, 2, none⟩) hl_P).trans k_P_2
  replace f_P : ∀ o, wc.frozen? ⟨wa.heap.size, o, none⟩ = false := fun o => (hb.frozen (p := ⟨wa.heap.size, o, none⟩) hl_P).trans (f_P o)
  replace HX_P := Lib.hid (HX_P.out.below hb)
  replace k_Q_0 : wc.cell? ⟨wb.heap.size, 0, none⟩ = some (.bool (decide ((p).num < 0))) := (hb.cell (p := ⟨wb.heap.size, 0, none⟩) hl_Q).trans k_Q_0
  replace k_Q_1 : wc.cell? ⟨wb.heap.size, 1, none⟩ = some (.slice rq (nlen (p).num.natAbs) cq) := (hb.cell (p := ⟨wb.heap.size, 1, none⟩) hl_Q).trans k_Q_1
  replace k_Q_2 : wc.cell? ⟨wb.heap.size, 2, none⟩ = some (.slice rq2 (nlen (p).den) cq2) := (hb.cell (p := ⟨wb.heap.size, 2, none⟩) hl_Q).trans k_Q_2
  replace f_Q : ∀ o, wc.frozen? ⟨wb.heap.size, o, none⟩ = false := fun o => (hb.frozen (p := ⟨wb.heap.size, o, none⟩) hl_Q).trans (f_Q o)
  replace HX_Q := Lib.hid (HX_Q.out.below hb)
  replace HP1 := Lib.hid (HP1.out.below hb)
  replace HP2 := Lib.hid (HP2.out.below hb)
  replace HQ1 := Lib.hid (HQ1.out.below hb)
  replace HQ2 := Lib.hid (HQ2.out.below hb)
  replace HB := Lib.hid (HB.out.trans (hb.mono hs0))
  replace hN : N ≤ wc.heap.size := Nat.le_trans hN hb.size
  replace hs0 : w.heap.size ≤ wc.heap.size := Nat.le_trans hs0 hb.size
  replace hl_T : w.heap.size < wc.heap.size := Nat.lt_of_lt_of_le hl_T hb.size
  replace hl_P : wa.heap.size < wc.heap.size := Nat.lt_of_lt_of_le hl_P hb.size
  replace hl_Q : wb.heap.size < wc.heap.size := Nat.lt_of_lt_of_le hl_Q hb.size
  clear hb
  have HR1 := Lib.hid hn
  clear hn
  have HR2 := Lib.hid hn'
  clear hn'
  go_wp2_with fail
  refine calls_name fun W3 hW => ?_
  have HL_W3 := Lib.hid (show Below wc.heap.size wc W3 by rw [← hW]; exact BlA)
  have hs_W3 : wc.heap.size ≤ W3.heap.size := by rw [← hW]; (first | omega | (simp; done) | (simp; omega))
  have hd_T_R : w.heap.size < wc.heap.size := by omega
  have hd_P_R : wa.heap.size < wc.heap.size := by omega
  have hd_Q_R : wb.heap.size < wc.heap.size := by omega
  have HK_W3 := Lib.hid (show Kp N wc W3 by rw [← hW]; exact KpA)
  replace k_T_0 : W3.cell? ⟨w.heap.size, 0, none⟩ = some (.int .i64 ((a : Nat) : Int)) := (HL_W3.out.cell (p := ⟨w.heap.size, 0, none⟩) hl_T).trans k_T_0
  replace k_T_1 : W3.cell? ⟨w.heap.size, 1, none⟩ = some (.int .i64 ((b : Nat) : Int)) := (HL_W3.out.cell (p := ⟨w.heap.size, 1, none⟩) hl_T).trans k_T_1
  replace k_T_2 : W3.cell? ⟨w.heap.size, 2, none⟩ = some (.int .i64 ((c : Nat) : Int)) := (HL_W3.out.cell (p := ⟨w.heap.size, 2, none⟩) hl_T).trans k_T_2
  replace k_T_3 : W3.cell? ⟨w.heap.size, 3, none⟩ = some (.int .i64 ((d : Nat) : Int)) := (HL_W3.out.cell (p := ⟨w.heap.size, 3, none⟩) hl_T).trans k_T_3
  replace f_T : ∀ o, W3.frozen? ⟨w.heap.size, o, none⟩ = false := fun o => (HL_W3.out.frozen (p := ⟨w.heap.size, o, none⟩) hl_T).trans (f_T o)
  replace HX_T := Lib.hid (show Bn W3 (w.heap.size) by rw [← hW]; exact KpA)
  replace k_P_0 : W3.cell? ⟨wa.heap.size, 0, none⟩ = some (.bool (decide ((p).num < 0))) := (HL_W3.out.cell (p := ⟨wa.heap.size, 0, none⟩) hl_P).trans k_P_0
  replace k_P_1 : W3.cell? ⟨wa.heap.size, 1, none⟩ = some (.slice rp (nlen (p).num.natAbs) cp) := (HL_W3.out.cell (p := ⟨wa.heap.size, 1, none⟩) hl_P).trans k_P_1
  replace k_P_2 : W3.cell? ⟨wa.heap.size, 2, none⟩ = some (.slice rp2 (nlen (p).den) cp2) := (HL_W3.out.cell (p := ⟨wa.heap.size, 2, none⟩) hl_P).trans k_P_2
  replace f_P : ∀ o, W3.frozen? ⟨wa.heap.size, o, none⟩ = false := fun o => (HL_W3.out.frozen (p := ⟨wa.heap.size, o, none⟩) hl_P).trans (f_P o)
  replace HX_P := Lib.hid (show Bn W3 (wa.heap.size) by rw [← hW]; exact KpA)
  replace k_Q_0 : W3.cell? ⟨wb.heap.size, 0, none⟩ = some (.bool (decide ((p).num < 0))) := (HL_W3.out.cell (p := ⟨wb.heap.size, 0, none⟩) hl_Q).trans k_Q_0
  replace k_Q_1 : W3.cell? ⟨wb.heap.size, 1, none⟩ = some (.slice rq (nlen (p).num.natAbs) cq) := (HL_W3.out.cell (p := ⟨wb.heap.size, 1, none⟩) hl_Q).trans k_Q_1
  replace k_Q_2 : W3.cell? ⟨wb.heap.size, 2, none⟩ = some (.slice rq2 (nlen (p).den) cq2) := (HL_W3.out.cell (p := ⟨wb.heap.size, 2, none⟩) hl_Q).trans k_Q_2
  replace f_Q : ∀ o, W3.frozen? ⟨wb.heap.size, o, none⟩ = false := fun o => (HL_W3.out.frozen (p := ⟨wb.heap.size, o, none⟩) hl_Q).trans (f_Q o)
  replace HX_Q := Lib.hid (show Bn W3 (wb.heap.size) by rw [← hW]; exact KpA)
  have k_R_0 : W3.cell? ⟨wc.heap.size, 0, none⟩ = some (.bool (decide ((p).num < 0))) := by rw [← hW]; (first | (go_simp; done) | (simp; done) | (simp [go_sem]; done) | (simp [go_sem, k_T_0, k_T_1, k_T_2, k_T_3, k_P_0, k_P_1, k_P_2, k_Q_0, k_Q_1, k_Q_2, f_T, f_P, f_Q, hl_T, hl_P, hl_Q]; done))
  have k_R_1 : W3.cell? ⟨wc.heap.size, 1, none⟩ = some (.slice rr (nlen (p).num.natAbs) cr) := by rw [← hW]; (first | (go_simp; done) | (simp; done) | (simp [go_sem]; done) | (simp [go_sem, k_T_0, k_T_1, k_T_2, k_T_3, k_P_0, k_P_1, k_P_2, k_Q_0, k_Q_1, k_Q_2, f_T, f_P, f_Q, hl_T, hl_P, hl_Q]; done))
  have k_R_2 : W3.cell? ⟨wc.heap.size, 2, none⟩ = some (.slice rr2 (nlen (p).den) cr2) := by rw [← hW]; (first | (go_simp; done) | (simp; done) | (simp [go_sem]; done) | (simp [go_sem, k_T_0, k_T_1, k_T_2, k_T_3, k_P_0, k_P_1, k_P_2, k_Q_0, k_Q_1, k_Q_2, f_T, f_P, f_Q, hl_T, hl_P, hl_Q]; done))
  have f_R : ∀ o, W3.frozen? ⟨wc.heap.size, o, none⟩ = false := by intro o; rw [← hW]; (first | (go_simp; done) | (simp; done) | (simp [go_sem]; done) | (simp [go_sem, k_T_0, k_T_1, k_T_2, k_T_3, k_P_0, k_P_1, k_P_2, k_Q_0, k_Q_1, k_Q_2, f_T, f_P, f_Q, hl_T, hl_P, hl_Q]; done))
  have HX_R := Lib.hid (show Bn W3 (wc.heap.size) by rw [← hW]; exact KpA)
  replace HP1 := Lib.hid (HP1.out.keep HK_W3.out)
  replace HP2 := Lib.hid (HP2.out.keep HK_W3.out)
  replace HQ1 := Lib.hid (HQ1.out.keep HK_W3.out)
  replace HQ2 := Lib.hid (HQ2.out.keep HK_W3.out)
  replace HR1 := Lib.hid (HR1.out.keep HK_W3.out)
  replace HR2 := Lib.hid (HR2.out.keep HK_W3.out)
  replace HB := Lib.hid (show Below w.heap.size w W3 by rw [← hW]; exact BlA)
  replace hN : N ≤ W3.heap.size := by rw [← hW]; (first | omega | (simp; done) | (simp; omega))
  replace hs0 : w.heap.size ≤ W3.heap.size := by rw [← hW]; (first | omega | (simp; done) | (simp; omega))
  replace hl_T : w.heap.size < W3.heap.size := by rw [← hW]; (first | omega | (simp; done) | (simp; omega))
  replace hl_P : wa.heap.size < W3.heap.size := by rw [← hW]; (first | omega | (simp; done) | (simp; omega))
  replace hl_Q : wb.heap.size < W3.heap.size := by rw [← hW]; (first | omega | (simp; done) | (simp; omega))
  have hl_R : wc.heap.size < W3.heap.size := by rw [← hW]; (first | omega | (simp; done) | (simp; omega))
  clear HL_W3
  clear hW HK_W3
  clear hl_T f_T HX_T k_T_0 k_T_1 k_T_2 k_T_3
  refine (SameRatio_any (N := N) _ _ _ _ _ _ _ _ _ _ _ _ _ _ hN HP1.out HQ1.out HP2.out HQ2.out).mono ?_
  rintro e wd1 ⟨rfl, hb⟩
  have hs_wd1 : W3.heap.size ≤ wd1.heap.size := hb.size
  replace k_P_0 : wd1.cell? ⟨wa.heap.size, 0, none⟩ = some (.bool (decide ((p).num < 0))) := (hb.cell (p := ⟨wa.heap.size, 0, none⟩) hl_P).trans k_P_0
  replace k_P_1 : wd1.cell? ⟨wa.heap.size, 1, none⟩ = some (.slice rp (nlen (p).num.natAbs) cp) := (hb.cell (p := ⟨wa.heap.size, 1, none⟩) hl_P).trans k_P_1
  replace k_P_2 : wd1.cell? ⟨wa.heap.size, 2, none⟩ = some (.slice rp2 (nlen (p).den) cp2) := (hb.cell (p := ⟨wa.heap.size, 2, none⟩) hl_P).trans k_P_2
  replace f_P : ∀ o, wd1.frozen? ⟨wa.heap.size, o, none⟩ = false := fun o => (hb.frozen (p := ⟨wa.heap.size, o, none⟩) hl_P).trans (f_P o)
  replace HX_P := Lib.hid (HX_P.out.below hb)
  replace k_Q_0 : wd1.cell? ⟨wb.heap.size, 0, none⟩ = some (.bool (decide ((p).num < 0))) := (hb.cell (p := ⟨wb.heap.size, 0, none⟩) hl_Q).trans k_Q_0
  replace k_Q_1 : wd1.cell? ⟨wb.heap.size, 1, none⟩ = some (.slice rq (nlen (p).num.natAbs) cq) := (hb.cell (p := ⟨wb.heap.size, 1, none⟩) hl_Q).trans k_Q_1
  replace k_Q_2 : wd1.cell? ⟨wb.heap.size, 2, none⟩ = some (.slice rq2 (nlen (p).den) cq2) := (hb.cell (p := ⟨wb.heap.size, 2, none⟩) hl_Q).trans k_Q_2
  replace f_Q : ∀ o, wd1.frozen? ⟨wb.heap.size, o, none⟩ = false := fun o => (hb.frozen (p := ⟨wb.heap.size, o, none⟩) hl_Q).trans (f_Q o)
  replace HX_Q := Lib.hid (HX_Q.out.below hb)
  replace k_R_0 : wd1.cell? ⟨wc.heap.size, 0, none⟩ = some (.bool (decide ((p).num < 0))) := (hb.cell (p := ⟨wc.heap.size, 0, none⟩) hl_R).trans k_R_0
  replace k_R_1 : wd1.cell? ⟨wc.heap.size, 1, none⟩ = some (.slice rr (nlen (p).num.natAbs) cr) := (hb.cell (p := ⟨wc.heap.size, 1, none⟩) hl_R).trans k_R_1
  replace k_R_2 : wd1.cell? ⟨wc.heap.size, 2, none⟩ = some (.slice rr2 (nlen (p).den) cr2) := (hb.cell (p := ⟨wc.heap.size, 2, none⟩) hl_R).trans k_R_2
  replace f_R : ∀ o, wd1.frozen? ⟨wc.heap.size, o, none⟩ = false := fun o => (hb.frozen (p := ⟨wc.heap.size, o, none⟩) hl_R).trans (f_R o)
  replace HX_R := Lib.hid (HX_R.out.below hb)
  replace HP1 := Lib.hid (HP1.out.below hb)
  replace HP2 := Lib.hid (HP2.out.below hb)
  replace HQ1 := Lib.hid (HQ1.out.below hb)
  replace HQ2 := Lib.hid (HQ2.out.below hb)
  replace HR1 := Lib.hid (HR1.out.below hb)
  replace HR2 := Lib.hid (HR2.out.below hb)
  replace HB := Lib.hid (HB.out.trans (hb.mono hs0))
  replace hN : N ≤ wd1.heap.size := Nat.le_trans hN hb.size
  replace hs0 : w.heap.size ≤ wd1.heap.size := Nat.le_trans hs0 hb.size
  replace hl_P : wa.heap.size < wd1.heap.size := Nat.lt_of_lt_of_le hl_P hb.size
  replace hl_Q : wb.heap.size < wd1.heap.size := Nat.lt_of_lt_of_le hl_Q hb.size
  replace hl_R : wc.heap.size < wd1.heap.size := Nat.lt_of_lt_of_le hl_R hb.size
  clear hb
  go_wp2_with fail
  refine calls_name fun W4 hW => ?_
  have HL_W4 := Lib.hid (show Below wd1.heap.size wd1 W4 by rw [← hW]; exact BlA)
  have hs_W4 : wd1.heap.size ≤ W4.heap.size := by rw [← hW]; (first | omega | (simp; done) | (simp; omega))
  have HK_W4 := Lib.hid (show Kp N wd1 W4 by rw [← hW]; exact KpA)
  replace k_P_0 : W4.cell? ⟨wa.heap.size, 0, none⟩ = some (.bool (decide ((p).num < 0))) := (HL_W4.out.cell (p := ⟨wa.heap.size, 0, none⟩) hl_P).trans k_P_0
  replace k_P_1 : W4.cell? ⟨wa.heap.size, 1, none⟩ = some (.slice rp (nlen (p).num.natAbs) cp) := (HL_W4.out.cell (p := ⟨wa.heap.size, 1, none⟩) hl_P).trans k_P_1
  replace k_P_2 : W4.cell? ⟨wa.heap.size, 2, none⟩ = some (.slice rp2 (nlen (p).den) cp2) := (HL_W4.out.cell (p := ⟨wa.heap.size, 2, none⟩) hl_P).trans k_P_2
  replace f_P : ∀ o, W4.frozen? ⟨wa.heap.size, o, none⟩ = false := fun o => (HL_W4.out.frozen (p := ⟨wa.heap.size, o, none⟩) hl_P).trans (f_P o)
  replace HX_P := Lib.hid (show Bn W4 (wa.heap.size) by rw [← hW]; exact KpA)
  replace k_Q_0 : W4.cell? ⟨wb.heap.size, 0, none⟩ = some (.bool (decide ((p).num < 0))) := (HL_W4.out.cell (p := ⟨wb.heap.size, 0, none⟩) hl_Q).trans k_Q_0
  replace k_Q_1 : W4.cell? ⟨wb.heap.size, 1, none⟩ = some (.slice rq (nlen (p).num.natAbs) cq) := (HL_W4.out.cell (p := ⟨wb.heap.size, 1, none⟩) hl_Q).trans k_Q_1
  replace k_Q_2 : W4.cell? ⟨wb.heap.size, 2, none⟩ = some (.slice rq2 (nlen (p).den) cq2) := (HL_W4.out.cell (p := ⟨wb.heap.size, 2, none⟩) hl_Q).trans k_Q_2
  replace f_Q : ∀ o, W4.frozen? ⟨wb.heap.size, o, none⟩ = false := fun o => (HL_W4.out.frozen (p := ⟨wb.heap.size, o, none⟩) hl_Q).trans (f_Q o)
  replace HX_Q := Lib.hid (show Bn W4 (wb.heap.size) by rw [← hW]; exact KpA)
  replace k_R_0 : W4.cell? ⟨wc.heap.size, 0, none⟩ = some (.bool (decide ((p).num < 0))) := (HL_W4.out.cell (p := ⟨wc.heap.size, 0, none⟩) hl_R).trans k_R_0
  replace k_R_1 : W4.cell? ⟨wc.heap.size, 1, none⟩ = some (.slice rr (nlen (p).num.natAbs) cr) := (HL_W4.out.cell (p := ⟨wc.heap.size, 1, none⟩) hl_R).trans k_R_1
  replace k_R_2 : W4.cell? ⟨wc.heap.size, 2, none⟩ = some (.slice rr2 (nlen (p).den) cr2) := (HL_W4.out.cell (p := ⟨wc.heap.size, 2, none⟩) hl_R).trans k_R_2
  replace f_R : ∀ o, W4.frozen? ⟨wc.heap.size, o, none⟩ = false := fun o => (HL_W4.out.frozen (p := ⟨wc.heap.size, o, none⟩) hl_R).trans (f_R o)
  replace HX_R := Lib.hid (show Bn W4 (wc.heap.size) by rw [← hW]; exact KpA)
  replace HP1 := Lib.hid (HP1.out.keep HK_W4.out)
  replace HP2 := Lib.hid (HP2.out.keep HK_W4.out)
  replace HQ1 := Lib.hid (HQ1.out.keep HK_W4.out)
  replace HQ2 := Lib.hid (HQ2.out.keep HK_W4.out)
  replace HR1 := Lib.hid (HR1.out.keep HK_W4.out)
  replace HR2 := Lib.hid (HR2.out.keep HK_W4.out)
  replace HB := Lib.hid (show Below w.heap.size w W4 by rw [← hW]; exact BlA)
  replace hN : N ≤ W4.heap.size := by rw [← hW]; (first | omega | (simp; done) | (simp; omega))
  replace hs0 : w.heap.size ≤ W4.heap.size := by rw [← hW]; (first | omega | (simp; done) | (simp; omega))
  replace hl_P : wa.heap.size < W4.heap.size := by rw [← hW]; (first | omega | (simp; done) | (simp; omega))
  replace hl_Q : wb.heap.size < W4.heap.size := by rw [← hW]; (first | omega | (simp; done) | (simp; omega))
  replace hl_R : wc.heap.size < W4.heap.size := by rw [← hW]; (first | omega | (simp; done) | (simp; omega))
  clear HL_W4
  clear hW HK_W4
  refine (SameRatio_any (N := N) _ _ _ _ _ _ _ _ _ _ _ _ _ _ hN HQ1.out HR1.out HQ2.out HR2.out).mono ?_
  rintro e wd2 ⟨rfl, hb⟩
  have hs_wd2 : W4.heap.size ≤ wd2.heap.size := hb.size
  replace k_P_0 : wd2.cell? ⟨wa.heap.size, 0, none⟩ = some (.bool (decide ((p).num < 0))) := (hb.cell (p := ⟨wa.heap.size, 0, none⟩) hl_P).trans k_P_0
  replace k_P_1 : wd2.cell? ⟨wa.heap.size, 1, none⟩ = some (.slice rp (nlen (p).num.natAbs) cp) := (hb.cell (p := ⟨wa.heap.size, 1, none⟩) hl_P).trans k_P_1
  replace k_P_2 : wd2.cell? ⟨wa.heap.size, 2, none⟩ = some (.slice rp2 (nlen (p).den) cp2) := (hb.cell (p := ⟨wa.heap.size, 2, none⟩) hl_P).trans k_P_2
  replace f_P : ∀ o, wd2.frozen? ⟨wa.heap.size, o, none⟩ = false := fun o => (hb.frozen (p := ⟨wa.heap.size, o, none⟩) hl_P).trans (f_P o)
  replace HX_P := Lib.hid (HX_P.out.below hb)
  replace k_Q_0 : wd2.cell? ⟨wb.heap.size, 0, none⟩ = some (.bool (decide ((p).num < 0))) := (hb.cell (p := ⟨wb.heap.size, 0, none⟩) hl_Q).trans k_Q_0
  replace k_Q_1 : wd2.cell? ⟨wb.heap.size, 1, none⟩ = some (.slice rq (nlen (p).num.natAbs) cq) := (hb.cell (p := ⟨wb.heap.size, 1, none⟩) hl_Q).trans k_Q_1
  replace k_Q_2 : wd2.cell? ⟨wb.heap.size, 2, none⟩ = some (.slice rq2 (nlen (p).den) cq2) := (hb.cell (p := ⟨wb.heap.size, 2, none⟩) hl_Q).trans k_Q_2
  replace f_Q : ∀ o, wd2.frozen? ⟨wb.heap.size, o, none⟩ = false := fun o => (hb.frozen (p := ⟨wb.heap.size, o, none⟩) hl_Q).trans (f_Q o)
  replace HX_Q := Lib.hid (HX_Q.out.below hb)
  replace k_R_0 : wd2.cell? ⟨wc.heap.size, 0, none⟩ = some (.bool (decide ((p).num < 0))) := (hb.cell (p := ⟨wc.heap.size, 0, none⟩) hl_R).trans k_R_0
  replace k_R_1 : wd2.cell? ⟨wc.heap.size, 1, none⟩ = some (.slice rr (nlen (p).num.natAbs) cr) := (hb.cell (p := ⟨wc.heap.size, 1, none⟩) hl_R).trans k_R_1
  replace k_R_2 : wd2.cell? ⟨wc.heap.size, 2, none⟩ = some (.slice rr2 (nlen (p).den) cr2) := (hb.cell (p := ⟨wc.heap.size, 2, none⟩) hl_R).trans k_R_2
  replace f_R : ∀ o, wd2.frozen? ⟨wc.heap.size, o, none⟩ = false := fun o => (hb.frozen (p := ⟨wc.heap.size, o, none⟩) hl_R).trans (f_R o)
  replace HX_R := Lib.hid (HX_R.out.below hb)
  replace HP1 := Lib.hid (HP1.out.below hb)
  replace HP2 := Lib.hid (HP2.out.below hb)
  replace HQ1 := Lib.hid (HQ1.out.below hb)
  replace HQ2 := Lib.hid (HQ2.out.below hb)
  replace HR1 := Lib.hid (HR1.out.below hb)
  replace HR2 := Lib.hid (HR2.out.below hb)
  replace HB := Lib.hid (HB.out.trans (hb.mono hs0))
  replace hN : N ≤ wd2.heap.size := Nat.le_trans hN hb.size
  replace hs0 : w.heap.size ≤ wd2.heap.size := Nat.le_trans hs0 hb.size
  replace hl_P : wa.heap.size < wd2.heap.size := Nat.lt_of_lt_of_le hl_P hb.size
  replace hl_Q : wb.heap.size < wd2.heap.size := Nat.lt_of_lt_of_le hl_Q hb.size
  replace hl_R : wc.heap.size < wd2.heap.size := Nat.lt_of_lt_of_le hl_R hb.size
  clear hb
  clear hl_R f_R HX_R k_R_0 k_R_1 k_R_2
  clear HR1
  clear HR2
  clear HQ1
  clear HQ2
  go_wp2_with fail
  refine region_name fun W4b hW => ?_
  have HL_W4b := Lib.hid (show Below wd2.heap.size wd2 W4b by rw [← hW]; exact BlA)
  have hs_W4b : wd2.heap.size ≤ W4b.heap.size := by rw [← hW]; (first | omega | (simp; done) | (simp; omega))
  have HK_W4b := Lib.hid (show Kp N wd2 W4b by rw [← hW]; exact KpA)
  replace k_P_0 : W4b.cell? ⟨wa.heap.size, 0, none⟩ = some (.bool (decide ((p).num < 0))) := (HL_W4b.out.cell (p := ⟨wa.heap.size, 0, none⟩) hl_P).trans k_P_0
  replace k_P_1 : W4b.cell? ⟨wa.heap.size, 1, none⟩ = some (.slice rp (nlen (p).num.natAbs) cp) := (HL_W4b.out.cell (p := ⟨wa.heap.size, 1, none⟩) hl_P).trans k_P_1
  replace k_P_2 : W4b.cell? ⟨wa.heap.size, 2, none⟩ = some (.slice rp2 (nlen (p).den) cp2) := (HL_W4b.out.cell (p := ⟨wa.heap.size, 2, none⟩) hl_P).trans k_P_2
  replace f_P : ∀ o, W4b.frozen? ⟨wa.heap.size, o, none⟩ = false := fun o => (HL_W4b.out.frozen (p := ⟨wa.heap.size, o, none⟩) hl_P).trans (f_P o)
  replace HX_P := Lib.hid (show Bn W4b (wa.heap.size) by rw [← hW]; exact KpA)
  replace k_Q_0 : W4b.cell? ⟨wb.heap.size, 0, none⟩ = some (.bool (decide ((p).num < 0))) := (HL_W4b.out.cell (p := ⟨wb.heap.size, 0, none⟩) hl_Q).trans k_Q_0
  replace k_Q_1 : W4b.cell? ⟨wb.heap.size, 1, none⟩ = some (.slice rq (nlen (p).num.natAbs) cq) := (HL_W4b.out.cell (p := ⟨wb.heap.size, 1, none⟩) hl_Q).trans k_Q_1
  replace k_Q_2 : W4b.cell? ⟨wb.heap.size, 2, none⟩ = some (.slice rq2 (nlen (p).den) cq2) := (HL_W4b.out.cell (p := ⟨wb.heap.size, 2, none⟩) hl_Q).trans k_Q_2
  replace f_Q : ∀ o, W4b.frozen? ⟨wb.heap.size, o, none⟩ = false := fun o => (HL_W4b.out.frozen (p := ⟨wb.heap.size, o, none⟩) hl_Q).trans (f_Q o)
  replace HX_Q := Lib.hid (show Bn W4b (wb.heap.size) by rw [← hW]; exact KpA)
  replace HP1 := Lib.hid (HP1.out.keep HK_W4b.out)
  replace HP2 := Lib.hid (HP2.out.keep HK_W4b.out)
  replace HB := Lib.hid (show Below w.heap.size w W4b by rw [← hW]; exact BlA)
  replace hN : N ≤ W4b.heap.size := by rw [← hW]; (first | omega | (simp; done) | (simp; omega))
  replace hs0 : w.heap.size ≤ W4b.heap.size := by rw [← hW]; (first | omega | (simp; done) | (simp; omega))
  replace hl_P : wa.heap.size < W4b.heap.size := by rw [← hW]; (first | omega | (simp; done) | (simp; omega))
  replace hl_Q : wb.heap.size < W4b.heap.size := by rw [← hW]; (first | omega | (simp; done) | (simp; omega))
  clear HL_W4b
  clear hW HK_W4b
  go_region_held3 (fun w' => w'.cell? ⟨wa.heap.size, 0, none⟩ = some (.bool (decide ((p).num < 0))) ∧ w'.cell? ⟨wa.heap.size, 1, none⟩ = some (.slice rp (nlen (p).num.natAbs) cp) ∧ w'.cell? ⟨wa.heap.size, 2, none⟩ = some (.slice rp2 (nlen (p).den) cp2))
    (first | (go_keep; done) | ((try dsimp only); (repeat' apply And.intro) <;> (first | (go_keep; done) | (exact cell_keep_alloc_drew (by first | omega | (simp; omega)) (by first | assumption | go_simp)) | (exact cell_keep_alloc (by first | omega | (simp; omega)) (by first | assumption | go_simp)) | (rw [cell_set2 _ _ _ _ _ _ _ _ (by omega)]; assumption) | (rw [cell_set3 _ _ _ _ _ _ _ _ _ _ (by omega)]; assumption))))
    (first
      | (go_at_call 13; refine (rsign_any (N := N) _ _ _ _ _ _ _ 122 p _ (by exact hN) (by exact Rt.of_norm HP1.out HP2.out 122 HZx.out)).mono ?_; rw [HSGx.out]; rintro e wax ⟨rfl, hb⟩; replace hb : Below W4b.heap.size W4b wax := (by first | exact hb | exact bel_of_drew hb); have hs_wax : W4b.heap.size ≤ wax.heap.size := hb.size; replace k_P_0 : wax.cell? ⟨wa.heap.size, 0, none⟩ = some (.bool (decide ((p).num < 0))) := (hb.cell (p := ⟨wa.heap.size, 0, none⟩) hl_P).trans k_P_0; replace k_P_1 : wax.cell? ⟨wa.heap.size, 1, none⟩ = some (.slice rp (nlen (p).num.natAbs) cp) := (hb.cell (p := ⟨wa.heap.size, 1, none⟩) hl_P).trans k_P_1; replace k_P_2 : wax.cell? ⟨wa.heap.size, 2, none⟩ = some (.slice rp2 (nlen (p).den) cp2) := (hb.cell (p := ⟨wa.heap.size, 2, none⟩) hl_P).trans k_P_2; replace f_P : ∀ o, wax.frozen? ⟨wa.heap.size, o, none⟩ = false := fun o => (hb.frozen (p := ⟨wa.heap.size, o, none⟩) hl_P).trans (f_P o); replace HX_P := Lib.hid (HX_P.out.below hb); replace k_Q_0 : wax.cell? ⟨wb.heap.size, 0, none⟩ = some (.bool (decide ((p).num < 0))) := (hb.cell (p := ⟨wb.heap.size, 0, none⟩) hl_Q).trans k_Q_0; replace k_Q_1 : wax.cell? ⟨wb.heap.size, 1, none⟩ = some (.slice rq (nlen (p).num.natAbs) cq) := (hb.cell (p := ⟨wb.heap.size, 1, none⟩) hl_Q).trans k_Q_1; replace k_Q_2 : wax.cell? ⟨wb.heap.size, 2, none⟩ = some (.slice rq2 (nlen (p).den) cq2) := (hb.cell (p := ⟨wb.heap.size, 2, none⟩) hl_Q).trans k_Q_2; replace f_Q : ∀ o, wax.frozen? ⟨wb.heap.size, o, none⟩ = false := fun o => (hb.frozen (p := ⟨wb.heap.size, o, none⟩) hl_Q).trans (f_Q o); replace HX_Q := Lib.hid (HX_Q.out.below hb); replace HP1 := Lib.hid (HP1.out.below hb); replace HP2 := Lib.hid (HP2.out.below hb); replace HB := Lib.hid (HB.out.trans (hb.mono hs0)); replace hN : N ≤ wax.heap.size := Nat.le_trans hN hb.size; replace hs0 : w.heap.size ≤ wax.heap.size := Nat.le_trans hs0 hb.size; replace hl_P : wa.heap.size < wax.heap.size := Nat.lt_of_lt_of_le hl_P hb.size; replace hl_Q : wb.heap.size < wax.heap.size := Nat.lt_of_lt_of_le hl_Q hb.size; clear hb; skip)
      | (go_at_call 20; refine (dpart_any (N := N) 1 1 _ (by exact hN) (by decide) (by decide) _ rfl).mono ?_; rintro e wbx ⟨rax, dax, rfl, hn, hb⟩; replace hb : Below wax.heap.size wax wbx := (by first | exact hb | exact bel_of_drew hb); have hs_wbx : wax.heap.size ≤ wbx.heap.size := hb.size; replace k_P_0 : wbx.cell? ⟨wa.heap.size, 0, none⟩ = some (.bool (decide ((p).num < 0))) := (hb.cell (p := ⟨wa.heap.size, 0, none⟩) hl_P).trans k_P_0; replace k_P_1 : wbx.cell? ⟨wa.heap.size, 1, none⟩ = some (.slice rp (nlen (p).num.natAbs) cp) := (hb.cell (p := ⟨wa.heap.size, 1, none⟩) hl_P).trans k_P_1; replace k_P_2 : wbx.cell? ⟨wa.heap.size, 2, none⟩ = some (.slice rp2 (nlen (p).den) cp2) := (hb.cell (p := ⟨wa.heap.size, 2, none⟩) hl_P).trans k_P_2; replace f_P : ∀ o, wbx.frozen? ⟨wa.heap.size, o, none⟩ = false := fun o => (hb.frozen (p := ⟨wa.heap.size, o, none⟩) hl_P).trans (f_P o); replace HX_P := Lib.hid (HX_P.out.below hb); replace k_Q_0 : wbx.cell? ⟨wb.heap.size, 0, none⟩ = some (.bool (decide ((p).num < 0))) := (hb.cell (p := ⟨wb.heap.size, 0, none⟩) hl_Q).trans k_Q_0; replace k_Q_1 : wbx.cell? ⟨wb.heap.size, 1, none⟩ = some (.slice rq (nlen (p).num.natAbs) cq) := (hb.cell (p := ⟨wb.heap.size, 1, none⟩) hl_Q).trans k_Q_1; replace k_Q_2 : wbx.cell? ⟨wb.heap.size, 2, none⟩ = some (.slice rq2 (nlen (p).den) cq2) := (hb.cell (p := ⟨wb.heap.size, 2, none⟩) hl_Q).trans k_Q_2; replace f_Q : ∀ o, wbx.frozen? ⟨wb.heap.size, o, none⟩ = false := fun o => (hb.frozen (p := ⟨wb.heap.size, o, none⟩) hl_Q).trans (f_Q o); replace HX_Q := Lib.hid (HX_Q.out.below hb); replace HP1 := Lib.hid (HP1.out.below hb); replace HP2 := Lib.hid (HP2.out.below hb); replace HB := Lib.hid (HB.out.trans (hb.mono hs0)); replace hN : N ≤ wbx.heap.size := Nat.le_trans hN hb.size; replace hs0 : w.heap.size ≤ wbx.heap.size := Nat.le_trans hs0 hb.size; replace hl_P : wa.heap.size < wbx.heap.size := Nat.lt_of_lt_of_le hl_P hb.size; replace hl_Q : wb.heap.size < wbx.heap.size := Nat.lt_of_lt_of_le hl_Q hb.size; clear hb; have HQO := Lib.hid hn; clear hn; skip)
      | (go_at_call 12; refine (rcmp_any (N := N) _ _ _ _ _ _ _ _ _ _ _ _ _ _ 122 1 p (frq 1 1) _ (by exact hN) (by exact Rt.of_norm HP1.out HP2.out 122 HZx.out) (by exact HQO.out) (by omega) (by omega)).mono ?_; rw [HKx.out]; rintro e wcx ⟨rfl, hb⟩; replace hb : Below wbx.heap.size wbx wcx := (by first | exact hb | exact bel_of_drew hb); have hs_wcx : wbx.heap.size ≤ wcx.heap.size := hb.size; replace k_P_0 : wcx.cell? ⟨wa.heap.size, 0, none⟩ = some (.bool (decide ((p).num < 0))) := (hb.cell (p := ⟨wa.heap.size, 0, none⟩) hl_P).trans k_P_0; replace k_P_1 : wcx.cell? ⟨wa.heap.size, 1, none⟩ = some (.slice rp (nlen (p).num.natAbs) cp) := (hb.cell (p := ⟨wa.heap.size, 1, none⟩) hl_P).trans k_P_1; replace k_P_2 : wcx.cell? ⟨wa.heap.size, 2, none⟩ = some (.slice rp2 (nlen (p).den) cp2) := (hb.cell (p := ⟨wa.heap.size, 2, none⟩) hl_P).trans k_P_2; replace f_P : ∀ o, wcx.frozen? ⟨wa.heap.size, o, none⟩ = false := fun o => (hb.frozen (p := ⟨wa.heap.size, o, none⟩) hl_P).trans (f_P o); replace HX_P := Lib.hid (HX_P.out.below hb); replace k_Q_0 : wcx.cell? ⟨wb.heap.size, 0, none⟩ = some (.bool (decide ((p).num < 0))) := (hb.cell (p := ⟨wb.heap.size, 0, none⟩) hl_Q).trans k_Q_0; replace k_Q_1 : wcx.cell? ⟨wb.heap.size, 1, none⟩ = some (.slice rq (nlen (p).num.natAbs) cq) := (hb.cell (p := ⟨wb.heap.size, 1, none⟩) hl_Q).trans k_Q_1; replace k_Q_2 : wcx.cell? ⟨wb.heap.size, 2, none⟩ = some (.slice rq2 (nlen (p).den) cq2) := (hb.cell (p := ⟨wb.heap.size, 2, none⟩) hl_Q).trans k_Q_2; replace f_Q : ∀ o, wcx.frozen? ⟨wb.heap.size, o, none⟩ = false := fun o => (hb.frozen (p := ⟨wb.heap.size, o, none⟩) hl_Q).trans (f_Q o); replace HX_Q := Lib.hid (HX_Q.out.below hb); replace HP1 := Lib.hid (HP1.out.below hb); replace HP2 := Lib.hid (HP2.out.below hb); replace HQO := Lib.hid (HQO.out.below hb); replace HB := Lib.hid (HB.out.trans (hb.mono hs0)); replace hN : N ≤ wcx.heap.size := Nat.le_trans hN hb.size; replace hs0 : w.heap.size ≤ wcx.heap.size := Nat.le_trans hs0 hb.size; replace hl_P : wa.heap.size < wcx.heap.size := Nat.lt_of_lt_of_le hl_P hb.size; replace hl_Q : wb.heap.size < wcx.heap.size := Nat.lt_of_lt_of_le hl_Q hb.size; clear hb; skip))
  clear HQO
  go_wp2_with fail
  clear HP1
  clear HP2
  refine calls_name fun W5 hW => ?_
  have HL_W5 := Lib.hid (show Below wcx.heap.size wcx W5 by rw [← hW]; exact BlA)
  have hs_W5 : wcx.heap.size ≤ W5.heap.size := by rw [← hW]; (first | omega | (simp; done) | (simp; omega))
  replace k_P_0 : W5.cell? ⟨wa.heap.size, 0, none⟩ = some (.bool (decide ((p).num < 0))) := (HL_W5.out.cell (p := ⟨wa.heap.size, 0, none⟩) hl_P).trans k_P_0
  replace k_P_1 : W5.cell? ⟨wa.heap.size, 1, none⟩ = some (.slice rp (nlen (p).num.natAbs) cp) := (HL_W5.out.cell (p := ⟨wa.heap.size, 1, none⟩) hl_P).trans k_P_1
  replace k_P_2 : W5.cell? ⟨wa.heap.size, 2, none⟩ = some (.slice rp2 (nlen (p).den) cp2) := (HL_W5.out.cell (p := ⟨wa.heap.size, 2, none⟩) hl_P).trans k_P_2
  replace f_P : ∀ o, W5.frozen? ⟨wa.heap.size, o, none⟩ = false := fun o => (HL_W5.out.frozen (p := ⟨wa.heap.size, o, none⟩) hl_P).trans (f_P o)
  replace HX_P := Lib.hid (show Bn W5 (wa.heap.size) by rw [← hW]; exact KpA)
  replace k_Q_0 : W5.cell? ⟨wb.heap.size, 0, none⟩ = some (.bool (decide ((p).num < 0))) := (HL_W5.out.cell (p := ⟨wb.heap.size, 0, none⟩) hl_Q).trans k_Q_0
  replace k_Q_1 : W5.cell? ⟨wb.heap.size, 1, none⟩ = some (.slice rq (nlen (p).num.natAbs) cq) := (HL_W5.out.cell (p := ⟨wb.heap.size, 1, none⟩) hl_Q).trans k_Q_1
  replace k_Q_2 : W5.cell? ⟨wb.heap.size, 2, none⟩ = some (.slice rq2 (nlen (p).den) cq2) := (HL_W5.out.cell (p := ⟨wb.heap.size, 2, none⟩) hl_Q).trans k_Q_2
  replace f_Q : ∀ o, W5.frozen? ⟨wb.heap.size, o, none⟩ = false := fun o => (HL_W5.out.frozen (p := ⟨wb.heap.size, o, none⟩) hl_Q).trans (f_Q o)
  replace HX_Q := Lib.hid (show Bn W5 (wb.heap.size) by rw [← hW]; exact KpA)
  replace HB := Lib.hid (show Below w.heap.size w W5 by rw [← hW]; exact BlA)
  replace hN : N ≤ W5.heap.size := by rw [← hW]; (first | omega | (simp; done) | (simp; omega))
  replace hs0 : w.heap.size ≤ W5.heap.size := by rw [← hW]; (first | omega | (simp; done) | (simp; omega))
  replace hl_P : wa.heap.size < W5.heap.size := by rw [← hW]; (first | omega | (simp; done) | (simp; omega))
  replace hl_Q : wb.heap.size < W5.heap.size := by rw [← hW]; (first | omega | (simp; done) | (simp; omega))
  clear HL_W5
  clear hW
  refine (sign_bad x y _ hbad).mono ?_
  rintro e we ⟨rfl, hb⟩
  have hs_we : W5.heap.size ≤ we.heap.size := hb.size
  replace k_P_0 : we.cell? ⟨wa.heap.size, 0, none⟩ = some (.bool (decide ((p).num < 0))) := (hb.cell (p := ⟨wa.heap.size, 0, none⟩) hl_P).trans k_P_0
  replace k_P_1 : we.cell? ⟨wa.heap.size, 1, none⟩ = some (.slice rp (nlen (p).num.natAbs) cp) := (hb.cell (p := ⟨wa.heap.size, 1, none⟩) hl_P).trans k_P_1
  replace k_P_2 : we.cell? ⟨wa.heap.size, 2, none⟩ = some (.slice rp2 (nlen (p).den) cp2) := (hb.cell (p := ⟨wa.heap.size, 2, none⟩) hl_P).trans k_P_2
  replace f_P : ∀ o, we.frozen? ⟨wa.heap.size, o, none⟩ = false := fun o => (hb.frozen (p := ⟨wa.heap.size, o, none⟩) hl_P).trans (f_P o)
  replace HX_P := Lib.hid (HX_P.out.below hb)
  replace k_Q_0 : we.cell? ⟨wb.heap.size, 0, none⟩ = some (.bool (decide ((p).num < 0))) := (hb.cell (p := ⟨wb.heap.size, 0, none⟩) hl_Q).trans k_Q_0
  replace k_Q_1 : we.cell? ⟨wb.heap.size, 1, none⟩ = some (.slice rq (nlen (p).num.natAbs) cq) := (hb.cell (p := ⟨wb.heap.size, 1, none⟩) hl_Q).trans k_Q_1
  replace k_Q_2 : we.cell? ⟨wb.heap.size, 2, none⟩ = some (.slice rq2 (nlen (p).den) cq2) := (hb.cell (p := ⟨wb.heap.size, 2, none⟩) hl_Q).trans k_Q_2
  replace f_Q : ∀ o, we.frozen? ⟨wb.heap.size, o, none⟩ = false := fun o => (hb.frozen (p := ⟨wb.heap.size, o, none⟩) hl_Q).trans (f_Q o)
  replace HX_Q := Lib.hid (HX_Q.out.below hb)
  replace HB := Lib.hid (HB.out.trans (hb.mono hs0))
  replace hN : N ≤ we.heap.size := Nat.le_trans hN hb.size
  replace hs0 : w.heap.size ≤ we.heap.size := Nat.le_trans hs0 hb.size
  replace hl_P : wa.heap.size < we.heap.size := Nat.lt_of_lt_of_le hl_P hb.size
  replace hl_Q : wb.heap.size < we.heap.size := Nat.lt_of_lt_of_le hl_Q hb.size
  clear hb
  go_wp2_with fail
  refine calls_name fun W6 hW => ?_
  have hs_W6 : we.heap.size ≤ W6.heap.size := by rw [← hW]; (first | omega | (simp; done) | (simp; omega))
  replace k_P_0 : W6.cell? ⟨wa.heap.size, 0, none⟩ = some (.bool false) := by rw [← hW]; (first | (go_simp; done) | (simp [go_sem, k_P_0]; done) | (simp [go_sem, k_P_0, k_P_1, k_P_2]; done) | (simp [go_sem, k_P_0, k_P_1, k_P_2, k_Q_0, k_Q_1, k_Q_2, f_P, f_Q, hl_P, hl_Q]; done))
  replace k_P_1 : W6.cell? ⟨wa.heap.size, 1, none⟩ = some (.slice none 0 0) := by rw [← hW]; (first | (go_simp; done) | (simp [go_sem, k_P_1]; done) | (simp [go_sem, k_P_0, k_P_1, k_P_2]; done) | (simp [go_sem, k_P_0, k_P_1, k_P_2, k_Q_0, k_Q_1, k_Q_2, f_P, f_Q, hl_P, hl_Q]; done))
  replace k_P_2 : W6.cell? ⟨wa.heap.size, 2, none⟩ = some (.slice none 0 0) := by rw [← hW]; (first | (go_simp; done) | (simp [go_sem, k_P_2]; done) | (simp [go_sem, k_P_0, k_P_1, k_P_2]; done) | (simp [go_sem, k_P_0, k_P_1, k_P_2, k_Q_0, k_Q_1, k_Q_2, f_P, f_Q, hl_P, hl_Q]; done))
  replace f_P : ∀ o, W6.frozen? ⟨wa.heap.size, o, none⟩ = false := by intro o; rw [← hW]; (first | with_reducible exact f_P o | (simp [go_sem, f_P]; done) | (simp [go_sem, f_P, hl_P]; done) | (go_simp; done) | (simp [go_sem, k_P_0, k_P_1, k_P_2, k_Q_0, k_Q_1, k_Q_2, f_P, f_Q, hl_P, hl_Q]; done))
  replace HX_P := Lib.hid (show Bn W6 (wa.heap.size) by rw [← hW]; exact KpA)
  replace k_Q_0 : W6.cell? ⟨wb.heap.size, 0, none⟩ = some (.bool (decide ((p).num < 0))) := by rw [← hW]; (first | with_reducible exact k_Q_0 | (simp [go_sem, k_Q_0]; done) | (simp [go_sem, k_Q_0, hl_Q]; done) | (go_simp; done) | (simp [go_sem, k_P_0, k_P_1, k_P_2, k_Q_0, k_Q_1, k_Q_2, f_P, f_Q, hl_P, hl_Q]; done))
  replace k_Q_1 : W6.cell? ⟨wb.heap.size, 1, none⟩ = some (.slice rq (nlen (p).num.natAbs) cq) := by rw [← hW]; (first | with_reducible exact k_Q_1 | (simp [go_sem, k_Q_1]; done) | (simp [go_sem, k_Q_1, hl_Q]; done) | (go_simp; done) | (simp [go_sem, k_P_0, k_P_1, k_P_2, k_Q_0, k_Q_1, k_Q_2, f_P, f_Q, hl_P, hl_Q]; done))
  replace k_Q_2 : W6.cell? ⟨wb.heap.size, 2, none⟩ = some (.slice rq2 (nlen (p).den) cq2) := by rw [← hW]; (first | with_reducible exact k_Q_2 | (simp [go_sem, k_Q_2]; done) | (simp [go_sem, k_Q_2, hl_Q]; done) | (go_simp; done) | (simp [go_sem, k_P_0, k_P_1, k_P_2, k_Q_0, k_Q_1, k_Q_2, f_P, f_Q, hl_P, hl_Q]; done))
  replace f_Q : ∀ o, W6.frozen? ⟨wb.heap.size, o, none⟩ = false := by intro o; rw [← hW]; (first | with_reducible exact f_Q o | (simp [go_sem, f_Q]; done) | (simp [go_sem, f_Q, hl_Q]; done) | (go_simp; done) | (simp [go_sem, k_P_0, k_P_1, k_P_2, k_Q_0, k_Q_1, k_Q_2, f_P, f_Q, hl_P, hl_Q]; done))
  replace HX_Q := Lib.hid (show Bn W6 (wb.heap.size) by rw [← hW]; exact KpA)
  replace HB := Lib.hid (show Below w.heap.size w W6 by rw [← hW]; exact BlA)
  replace hN : N ≤ W6.heap.size := by rw [← hW]; (first | omega | (simp; done) | (simp; omega))
  replace hs0 : w.heap.size ≤ W6.heap.size := by rw [← hW]; (first | omega | (simp; done) | (simp; omega))
  replace hl_P : wa.heap.size < W6.heap.size := by rw [← hW]; (first | omega | (simp; done) | (simp; omega))
  replace hl_Q : wb.heap.size < W6.heap.size := by rw [← hW]; (first | omega | (simp; done) | (simp; omega))
  clear hW
  refine (sign_bad y x _ (by omega)).mono ?_
  rintro e wf ⟨rfl, hb⟩
  have hs_wf : W6.heap.size ≤ wf.heap.size := hb.size
  replace k_P_0 : wf.cell? ⟨wa.heap.size, 0, none⟩ = some (.bool false) := (hb.cell (p := ⟨wa.heap.size, 0, none⟩) hl_P).trans k_P_0
  replace k_P_1 : wf.cell? ⟨wa.heap.size, 1, none⟩ = some (.slice none 0 0) := (hb.cell (p := ⟨wa.heap.size, 1, none⟩) hl_P).trans k_P_1
  replace k_P_2 : wf.cell? ⟨wa.heap.size, 2, none⟩ = some (.slice none 0 0) := (hb.cell (p := ⟨wa.heap.size, 2, none⟩) hl_P).trans k_P_2
  replace f_P : ∀ o, wf.frozen? ⟨wa.heap.size, o, none⟩ = false := fun o => (hb.frozen (p := ⟨wa.heap.size, o, none⟩) hl_P).trans (f_P o)
  replace HX_P := Lib.hid (HX_P.out.below hb)
  replace k_Q_0 : wf.cell? ⟨wb.heap.size, 0, none⟩ = some (.bool (decide ((p).num < 0))) := (hb.cell (p := ⟨wb.heap.size, 0, none⟩) hl_Q).trans k_Q_0
  replace k_Q_1 : wf.cell? ⟨wb.heap.size, 1, none⟩ = some (.slice rq (nlen (p).num.natAbs) cq) := (hb.cell (p := ⟨wb.heap.size, 1, none⟩) hl_Q).trans k_Q_1
  replace k_Q_2 : wf.cell? ⟨wb.heap.size, 2, none⟩ = some (.slice rq2 (nlen (p).den) cq2) := (hb.cell (p := ⟨wb.heap.size, 2, none⟩) hl_Q).trans k_Q_2
  replace f_Q : ∀ o, wf.frozen? ⟨wb.heap.size, o, none⟩ = false := fun o => (hb.frozen (p := ⟨wb.heap.size, o, none⟩) hl_Q).trans (f_Q o)
  replace HX_Q := Lib.hid (HX_Q.out.below hb)
  replace HB := Lib.hid (HB.out.trans (hb.mono hs0))
  replace hN : N ≤ wf.heap.size := Nat.le_trans hN hb.size
  replace hs0 : w.heap.size ≤ wf.heap.size := Nat.le_trans hs0 hb.size
  replace hl_P : wa.heap.size < wf.heap.size := Nat.lt_of_lt_of_le hl_P hb.size
  replace hl_Q : wb.heap.size < wf.heap.size := Nat.lt_of_lt_of_le hl_Q hb.size
  clear hb
  go_wp2_with fail
  refine region_name fun W7 hW => ?_
  have hs_W7 : wf.heap.size ≤ W7.heap.size := by rw [← hW]; (first | omega | (simp; done) | (simp; omega))
  replace k_P_0 : W7.cell? ⟨wa.heap.size, 0, none⟩ = some (.bool false) := by rw [← hW]; (first | with_reducible exact k_P_0 | (simp [go_sem, k_P_0]; done) | (simp [go_sem, k_P_0, hl_P]; done) | (go_simp; done) | (simp [go_sem, k_P_0, k_P_1, k_P_2, k_Q_0, k_Q_1, k_Q_2, f_P, f_Q, hl_P, hl_Q]; done))
  replace k_P_1 : W7.cell? ⟨wa.heap.size, 1, none⟩ = some (.slice none 0 0) := by rw [← hW]; (first | with_reducible exact k_P_1 | (simp [go_sem, k_P_1]; done) | (simp [go_sem, k_P_1, hl_P]; done) | (go_simp; done) | (simp [go_sem, k_P_0, k_P_1, k_P_2, k_Q_0, k_Q_1, k_Q_2, f_P, f_Q, hl_P, hl_Q]; done))
  replace k_P_2 : W7.cell? ⟨wa.heap.size, 2, none⟩ = some (.slice none 0 0) := by rw [← hW]; (first | with_reducible exact k_P_2 | (simp [go_sem, k_P_2]; done) | (simp [go_sem, k_P_2, hl_P]; done) | (go_simp; done) | (simp [go_sem, k_P_0, k_P_1, k_P_2, k_Q_0, k_Q_1, k_Q_2, f_P, f_Q, hl_P, hl_Q]; done))
  replace f_P : ∀ o, W7.frozen? ⟨wa.heap.size, o, none⟩ = false := by intro o; rw [← hW]; (first | with_reducible exact f_P o | (simp [go_sem, f_P]; done) | (simp [go_sem, f_P, hl_P]; done) | (go_simp; done) | (simp [go_sem, k_P_0, k_P_1, k_P_2, k_Q_0, k_Q_1, k_Q_2, f_P, f_Q, hl_P, hl_Q]; done))
  replace HX_P := Lib.hid (show Bn W7 (wa.heap.size) by rw [← hW]; exact KpA)
  replace k_Q_0 : W7.cell? ⟨wb.heap.size, 0, none⟩ = some (.bool false) := by rw [← hW]; (first | (go_simp; done) | (simp [go_sem, k_Q_0]; done) | (simp [go_sem, k_Q_0, k_Q_1, k_Q_2]; done) | (simp [go_sem, k_P_0, k_P_1, k_P_2, k_Q_0, k_Q_1, k_Q_2, f_P, f_Q, hl_P, hl_Q]; done))
  replace k_Q_1 : W7.cell? ⟨wb.heap.size, 1, none⟩ = some (.slice none 0 0) := by rw [← hW]; (first | (go_simp; done) | (simp [go_sem, k_Q_1]; done) | (simp [go_sem, k_Q_0, k_Q_1, k_Q_2]; done) | (simp [go_sem, k_P_0, k_P_1, k_P_2, k_Q_0, k_Q_1, k_Q_2, f_P, f_Q, hl_P, hl_Q]; done))
  replace k_Q_2 : W7.cell? ⟨wb.heap.size, 2, none⟩ = some (.slice none 0 0) := by rw [← hW]; (first | (go_simp; done) | (simp [go_sem, k_Q_2]; done) | (simp [go_sem, k_Q_0, k_Q_1, k_Q_2]; done) | (simp [go_sem, k_P_0, k_P_1, k_P_2, k_Q_0, k_Q_1, k_Q_2, f_P, f_Q, hl_P, hl_Q]; done))
  replace f_Q : ∀ o, W7.frozen? ⟨wb.heap.size, o, none⟩ = false := by intro o; rw [← hW]; (first | with_reducible exact f_Q o | (simp [go_sem, f_Q]; done) | (simp [go_sem, f_Q, hl_Q]; done) | (go_simp; done) | (simp [go_sem, k_P_0, k_P_1, k_P_2, k_Q_0, k_Q_1, k_Q_2, f_P, f_Q, hl_P, hl_Q]; done))
  replace HX_Q := Lib.hid (show Bn W7 (wb.heap.size) by rw [← hW]; exact KpA)
  replace HB := Lib.hid (show Below w.heap.size w W7 by rw [← hW]; exact BlA)
  replace hN : N ≤ W7.heap.size := by rw [← hW]; (first | omega | (simp; done) | (simp; omega))
  replace hs0 : w.heap.size ≤ W7.heap.size := by rw [← hW]; (first | omega | (simp; done) | (simp; omega))
  replace hl_P : wa.heap.size < W7.heap.size := by rw [← hW]; (first | omega | (simp; done) | (simp; omega))
  replace hl_Q : wb.heap.size < W7.heap.size := by rw [← hW]; (first | omega | (simp; done) | (simp; omega))
  clear hW
  go_quiet (fail)
  go_wp2_with fail
  refine calls_name fun W8 hW => ?_
  have hb : Below W7.heap.size W7 W8 := by rw [← hW]; exact bel_drewN _ _ _
  clear hW
  have hs_W8 : W7.heap.size ≤ W8.heap.size := hb.size
  replace k_P_0 : W8.cell? ⟨wa.heap.size, 0, none⟩ = some (.bool false) := (hb.cell (p := ⟨wa.heap.size, 0, none⟩) hl_P).trans k_P_0
  replace k_P_1 : W8.cell? ⟨wa.heap.size, 1, none⟩ = some (.slice none 0 0) := (hb.cell (p := ⟨wa.heap.size, 1, none⟩) hl_P).trans k_P_1
  replace k_P_2 : W8.cell? ⟨wa.heap.size, 2, none⟩ = some (.slice none 0 0) := (hb.cell (p := ⟨wa.heap.size, 2, none⟩) hl_P).trans k_P_2
  replace f_P : ∀ o, W8.frozen? ⟨wa.heap.size, o, none⟩ = false := fun o => (hb.frozen (p := ⟨wa.heap.size, o, none⟩) hl_P).trans (f_P o)
  replace HX_P := Lib.hid (HX_P.out.below hb)
  replace k_Q_0 : W8.cell? ⟨wb.heap.size, 0, none⟩ = some (.bool false) := (hb.cell (p := ⟨wb.heap.size, 0, none⟩) hl_Q).trans k_Q_0
  replace k_Q_1 : W8.cell? ⟨wb.heap.size, 1, none⟩ = some (.slice none 0 0) := (hb.cell (p := ⟨wb.heap.size, 1, none⟩) hl_Q).trans k_Q_1
  replace k_Q_2 : W8.cell? ⟨wb.heap.size, 2, none⟩ = some (.slice none 0 0) := (hb.cell (p := ⟨wb.heap.size, 2, none⟩) hl_Q).trans k_Q_2
  replace f_Q : ∀ o, W8.frozen? ⟨wb.heap.size, o, none⟩ = false := fun o => (hb.frozen (p := ⟨wb.heap.size, o, none⟩) hl_Q).trans (f_Q o)
  replace HX_Q := Lib.hid (HX_Q.out.below hb)
  replace HB := Lib.hid (HB.out.trans (hb.mono hs0))
  replace hN : N ≤ W8.heap.size := Nat.le_trans hN hb.size
  replace hs0 : w.heap.size ≤ W8.heap.size := Nat.le_trans hs0 hb.size
  replace hl_P : wa.heap.size < W8.heap.size := Nat.lt_of_lt_of_le hl_P hb.size
  replace hl_Q : wb.heap.size < W8.heap.size := Nat.lt_of_lt_of_le hl_Q hb.size
  clear hb
  have HZ1 := Lib.hid (Nt.zero N W8)
  have HZ2 := Lib.hid (Nt.zero N W8)
  refine (SameRatio_any (N := N) _ _ _ _ _ _ _ _ _ _ _ _ _ _ hN HZ1.out HZ1.out HZ2.out HZ2.out).mono ?_
  rintro e wg ⟨rfl, hb⟩
  have hs_wg : W8.heap.size ≤ wg.heap.size := hb.size
  replace k_P_0 : wg.cell? ⟨wa.heap.size, 0, none⟩ = some (.bool false) := (hb.cell (p := ⟨wa.heap.size, 0, none⟩) hl_P).trans k_P_0
  replace k_P_1 : wg.cell? ⟨wa.heap.size, 1, none⟩ = some (.slice none 0 0) := (hb.cell (p := ⟨wa.heap.size, 1, none⟩) hl_P).trans k_P_1
  replace k_P_2 : wg.cell? ⟨wa.heap.size, 2, none⟩ = some (.slice none 0 0) := (hb.cell (p := ⟨wa.heap.size, 2, none⟩) hl_P).trans k_P_2
  replace f_P : ∀ o, wg.frozen? ⟨wa.heap.size, o, none⟩ = false := fun o => (hb.frozen (p := ⟨wa.heap.size, o, none⟩) hl_P).trans (f_P o)
  replace HX_P := Lib.hid (HX_P.out.below hb)
  replace k_Q_0 : wg.cell? ⟨wb.heap.size, 0, none⟩ = some (.bool false) := (hb.cell (p := ⟨wb.heap.size, 0, none⟩) hl_Q).trans k_Q_0
  replace k_Q_1 : wg.cell? ⟨wb.heap.size, 1, none⟩ = some (.slice none 0 0) := (hb.cell (p := ⟨wb.heap.size, 1, none⟩) hl_Q).trans k_Q_1
  replace k_Q_2 : wg.cell? ⟨wb.heap.size, 2, none⟩ = some (.slice none 0 0) := (hb.cell (p := ⟨wb.heap.size, 2, none⟩) hl_Q).trans k_Q_2
  replace f_Q : ∀ o, wg.frozen? ⟨wb.heap.size, o, none⟩ = false := fun o => (hb.frozen (p := ⟨wb.heap.size, o, none⟩) hl_Q).trans (f_Q o)
  replace HX_Q := Lib.hid (HX_Q.out.below hb)
  replace HB := Lib.hid (HB.out.trans (hb.mono hs0))
  replace hN : N ≤ wg.heap.size := Nat.le_trans hN hb.size
  replace hs0 : w.heap.size ≤ wg.heap.size := Nat.le_trans hs0 hb.size
  replace hl_P : wa.heap.size < wg.heap.size := Nat.lt_of_lt_of_le hl_P hb.size
  replace hl_Q : wb.heap.size < wg.heap.size := Nat.lt_of_lt_of_le hl_Q hb.size
  clear hb
  go_wp2_with fail
  refine calls_name fun W9 hW => ?_
  have HL_W9 := Lib.hid (show Below wg.heap.size wg W9 by rw [← hW]; exact BlA)
  have hs_W9 : wg.heap.size ≤ W9.heap.size := by rw [← hW]; (first | omega | (simp; done) | (simp; omega))
  replace k_P_0 : W9.cell? ⟨wa.heap.size, 0, none⟩ = some (.bool false) := (HL_W9.out.cell (p := ⟨wa.heap.size, 0, none⟩) hl_P).trans k_P_0
  replace k_P_1 : W9.cell? ⟨wa.heap.size, 1, none⟩ = some (.slice none 0 0) := (HL_W9.out.cell (p := ⟨wa.heap.size, 1, none⟩) hl_P).trans k_P_1
  replace k_P_2 : W9.cell? ⟨wa.heap.size, 2, none⟩ = some (.slice none 0 0) := (HL_W9.out.cell (p := ⟨wa.heap.size, 2, none⟩) hl_P).trans k_P_2
  replace f_P : ∀ o, W9.frozen? ⟨wa.heap.size, o, none⟩ = false := fun o => (HL_W9.out.frozen (p := ⟨wa.heap.size, o, none⟩) hl_P).trans (f_P o)
  replace HX_P := Lib.hid (show Bn W9 (wa.heap.size) by rw [← hW]; exact KpA)
  replace k_Q_0 : W9.cell? ⟨wb.heap.size, 0, none⟩ = some (.bool false) := (HL_W9.out.cell (p := ⟨wb.heap.size, 0, none⟩) hl_Q).trans k_Q_0
  replace k_Q_1 : W9.cell? ⟨wb.heap.size, 1, none⟩ = some (.slice none 0 0) := (HL_W9.out.cell (p := ⟨wb.heap.size, 1, none⟩) hl_Q).trans k_Q_1
  replace k_Q_2 : W9.cell? ⟨wb.heap.size, 2, none⟩ = some (.slice none 0 0) := (HL_W9.out.cell (p := ⟨wb.heap.size, 2, none⟩) hl_Q).trans k_Q_2
  replace f_Q : ∀ o, W9.frozen? ⟨wb.heap.size, o, none⟩ = false := fun o => (HL_W9.out.frozen (p := ⟨wb.heap.size, o, none⟩) hl_Q).trans (f_Q o)
  replace HX_Q := Lib.hid (show Bn W9 (wb.heap.size) by rw [← hW]; exact KpA)
  replace HB := Lib.hid (show Below w.heap.size w W9 by rw [← hW]; exact BlA)
  replace hN : N ≤ W9.heap.size := by rw [← hW]; (first | omega | (simp; done) | (simp; omega))
  replace hs0 : w.heap.size ≤ W9.heap.size := by rw [← hW]; (first | omega | (simp; done) | (simp; omega))
  replace hl_P : wa.heap.size < W9.heap.size := by rw [← hW]; (first | omega | (simp; done) | (simp; omega))
  replace hl_Q : wb.heap.size < W9.heap.size := by rw [← hW]; (first | omega | (simp; done) | (simp; omega))
  clear HL_W9
  clear hW
  refine (dawake_any (N := N) _ hN (HTw.out.below HB.out)).mono ?_
  rintro e wh ⟨rfl, hb⟩
  have hs_wh : W9.heap.size ≤ wh.heap.size := hb.size
  replace k_P_0 : wh.cell? ⟨wa.heap.size, 0, none⟩ = some (.bool false) := (hb.cell (p := ⟨wa.heap.size, 0, none⟩) hl_P).trans k_P_0
  replace k_P_1 : wh.cell? ⟨wa.heap.size, 1, none⟩ = some (.slice none 0 0) := (hb.cell (p := ⟨wa.heap.size, 1, none⟩) hl_P).trans k_P_1
  replace k_P_2 : wh.cell? ⟨wa.heap.size, 2, none⟩ = some (.slice none 0 0) := (hb.cell (p := ⟨wa.heap.size, 2, none⟩) hl_P).trans k_P_2
  replace f_P : ∀ o, wh.frozen? ⟨wa.heap.size, o, none⟩ = false := fun o => (hb.frozen (p := ⟨wa.heap.size, o, none⟩) hl_P).trans (f_P o)
  replace HX_P := Lib.hid (HX_P.out.below hb)
  replace k_Q_0 : wh.cell? ⟨wb.heap.size, 0, none⟩ = some (.bool false) := (hb.cell (p := ⟨wb.heap.size, 0, none⟩) hl_Q).trans k_Q_0
  replace k_Q_1 : wh.cell? ⟨wb.heap.size, 1, none⟩ = some (.slice none 0 0) := (hb.cell (p := ⟨wb.heap.size, 1, none⟩) hl_Q).trans k_Q_1
  replace k_Q_2 : wh.cell? ⟨wb.heap.size, 2, none⟩ = some (.slice none 0 0) := (hb.cell (p := ⟨wb.heap.size, 2, none⟩) hl_Q).trans k_Q_2
  replace f_Q : ∀ o, wh.frozen? ⟨wb.heap.size, o, none⟩ = false := fun o => (hb.frozen (p := ⟨wb.heap.size, o, none⟩) hl_Q).trans (f_Q o)
  replace HX_Q := Lib.hid (HX_Q.out.below hb)
  replace HB := Lib.hid (HB.out.trans (hb.mono hs0))
  replace hN : N ≤ wh.heap.size := Nat.le_trans hN hb.size
  replace hs0 : w.heap.size ≤ wh.heap.size := Nat.le_trans hs0 hb.size
  replace hl_P : wa.heap.size < wh.heap.size := Nat.lt_of_lt_of_le hl_P hb.size
  replace hl_Q : wb.heap.size < wh.heap.size := Nat.lt_of_lt_of_le hl_Q hb.size
  clear hb
  go_wp2_with fail
  go_ret
  exact ⟨rfl, HB.out⟩

set_option maxHeartbeats 8000000 in
set_option maxRecDepth 100000 in
theorem dsym_ny {N : Nat} (a b c d : Int) (hv : vldT a b c d = false) (x y : Nat) (hx : x ≤ 60) (hy : y ≤ 60) (w : World) (hN : N ≤ w.heap.size) (htab : TabW w) :
    Calls Tryd.prog 5 #[.agg #[.int .i64 a, .int .i64 b, .int .i64 c, .int .i64 d], .int .i64 ((x : Nat) : Int), .int .i64 ((y : Nat) : Int)] w fun e w' => e = .returned (.bool true) ∧ Below w.heap.size w w' := by
  have HV := Lib.hid hv
  have HVg := Lib.hid (show vldT c d a b = false by cases e : vldT c d a b; (· rfl); (· have := vldT_iff.1 e; rw [vldT_iff.2 ⟨this.2.2.1, this.2.2.2, this.1, this.2.1⟩] at hv; cases hv))
  have HVs := Lib.hid (show vldT b a d c = false by cases e : vldT b a d c; (· rfl); (· have := vldT_iff.1 e; rw [vldT_iff.2 ⟨this.2.1, this.1, this.2.2.2, this.2.2.1⟩] at hv; cases hv))
  clear hv
  obtain ⟨p9, hp9⟩ : ∃ p, signQ (x + y) x = p := ⟨_, rfl⟩
  have hrg9 : 0 < p9 ∧ p9 ≤ 1 := by rw [← hp9]; exact sign_range (x + y) x (by omega) (by omega)
  obtain ⟨σy, hσy⟩ : ∃ σ, (p9).num.sign = σ := ⟨_, rfl⟩
  obtain ⟨κy, hκy⟩ : ∃ κ, cmpQ p9 (frq 1 1) = κ := ⟨_, rfl⟩
  have dsy : decide (σy ≤ 0) = false := by rw [← hσy]; exact sgn_pos1 _ (hrg9).1
  have dky : decide (0 < κy) = false := by rw [← hκy]; exact cmp_gt1 _ (hrg9).2
  have HSGy := Lib.hid hσy
  have HKy := Lib.hid hκy
  have HZy := Lib.hid (show rsz p9 ≤ 122 from by rw [← hp9]; exact sign_len (x + y) x (by omega) (by omega))
  clear hσy hκy
  have HP9' := Lib.hid (show signQ (y + x) y = p9 by rw [← hp9, Nat.add_comm y x, ← sign_sym (x + y) x (by omega), show x + y - x = y by omega])
  have HP9 := Lib.hid hp9
  clear hp9
  clear hrg9
  have HTw := Lib.hid htab
  clear htab
  have hN0 := hN
  have HB := Lib.hid (Below.refl w.heap.size w)
  go_enter Tryd.func5, Tryd.ntmps5
  go_wp2_with fail
  refine calls_name fun W0 hW => ?_
  have hs_W0 : w.heap.size ≤ W0.heap.size := by rw [← hW]; (first | omega | (simp; done) | (simp; omega))
  have k_T_0 : W0.cell? ⟨w.heap.size, 0, none⟩ = some (.int .i64 a) := by rw [← hW]; (first | (go_simp; done) | (simp; done) | (simp [go_sem]; done) | (simp [go_sem]; done))
  have k_T_1 : W0.cell? ⟨w.heap.size, 1, none⟩ = some (.int .i64 b) := by rw [← hW]; (first | (go_simp; done) | (simp; done) | (simp [go_sem]; done) | (simp [go_sem]; done))
  have k_T_2 : W0.cell? ⟨w.heap.size, 2, none⟩ = some (.int .i64 c) := by rw [← hW]; (first | (go_simp; done) | (simp; done) | (simp [go_sem]; done) | (simp [go_sem]; done))
  have k_T_3 : W0.cell? ⟨w.heap.size, 3, none⟩ = some (.int .i64 d) := by rw [← hW]; (first | (go_simp; done) | (simp; done) | (simp [go_sem]; done) | (simp [go_sem]; done))
  have f_T : ∀ o, W0.frozen? ⟨w.heap.size, o, none⟩ = false := by intro o; rw [← hW]; (first | (go_simp; done) | (simp; done) | (simp [go_sem]; done) | (simp [go_sem]; done))
  have HX_T := Lib.hid (show Bn W0 (w.heap.size) by rw [← hW]; exact KpA)
  replace HB := Lib.hid (show Below w.heap.size w W0 by rw [← hW]; exact BlA)
  replace hN : N ≤ W0.heap.size := by rw [← hW]; (first | omega | (simp; done) | (simp; omega))
  have hs0 : w.heap.size ≤ W0.heap.size := by rw [← hW]; (first | omega | (simp; done) | (simp; omega))
  have hl_T : w.heap.size < W0.heap.size := by rw [← hW]; (first | omega | (simp; done) | (simp; omega))
  clear hW
  refine (fisher_bad (N := N) a b c d _ hN HV.out).mono ?_
  rintro e wa ⟨rfl, hb⟩
  have hs_wa : W0.heap.size ≤ wa.heap.size := hb.size
  replace k_T_0 : wa.cell? ⟨w.heap.size, 0, none⟩ = some (.int .i64 a) := (hb.cell (p := ⟨w.heap.size, 0, none⟩) hl_T).trans k_T_0
  replace k_T_1 : wa.cell? ⟨w.heap.size, 1, none⟩ = some (.int .i64 b) := (hb.cell (p := ⟨w.heap.size, 1, none⟩) hl_T).trans k_T_1
  replace k_T_2 : wa.cell? ⟨w.heap.size, 2, none⟩ = some (.int .i64 c) := (hb.cell (p := ⟨w.heap.size, 2, none⟩) hl_T).trans k_T_2
  replace k_T_3 : wa.cell? ⟨w.heap.size, 3, none⟩ = some (.int .i64 d) := (hb.cell (p := ⟨w.heap.size, 3, none⟩) hl_T).trans k_T_3
  replace f_T : ∀ o, wa.frozen? ⟨w.heap.size, o, none⟩ = false := fun o => (hb.frozen (p := ⟨w.heap.size, o, none⟩) hl_T).trans (f_T o)
  replace HX_T := Lib.hid (HX_T.out.below hb)
  replace HB := Lib.hid (HB.out.trans (hb.mono hs0))
  replace hN : N ≤ wa.heap.size := Nat.le_trans hN hb.size
  replace hs0 : w.heap.size ≤ wa.heap.size := Nat.le_trans hs0 hb.size
  replace hl_T : w.heap.size < wa.heap.size := Nat.lt_of_lt_of_le hl_T hb.size
  clear hb
  go_wp2_with fail
  refine calls_name fun W1 hW => ?_
  have HL_W1 := Lib.hid (show Below wa.heap.size wa W1 by rw [← hW]; exact BlA)
  have hs_W1 : wa.heap.size ≤ W1.heap.size := by rw [← hW]; (first | omega | (simp; done) | (simp; omega))
  have hd_T_P : w.heap.size < wa.heap.size := by omega
  replace k_T_0 : W1.cell? ⟨w.heap.size, 0, none⟩ = some (.int .i64 a) := (HL_W1.out.cell (p := ⟨w.heap.size, 0, none⟩) hl_T).trans k_T_0
  replace k_T_1 : W1.cell? ⟨w.heap.size, 1, none⟩ = some (.int .i64 b) := (HL_W1.out.cell (p := ⟨w.heap.size, 1, none⟩) hl_T).trans k_T_1
  replace k_T_2 : W1.cell? ⟨w.heap.size, 2, none⟩ = some (.int .i64 c) := (HL_W1.out.cell (p := ⟨w.heap.size, 2, none⟩) hl_T).trans k_T_2
  replace k_T_3 : W1.cell? ⟨w.heap.size, 3, none⟩ = some (.int .i64 d) := (HL_W1.out.cell (p := ⟨w.heap.size, 3, none⟩) hl_T).trans k_T_3
  replace f_T : ∀ o, W1.frozen? ⟨w.heap.size, o, none⟩ = false := fun o => (HL_W1.out.frozen (p := ⟨w.heap.size, o, none⟩) hl_T).trans (f_T o)
  replace HX_T := Lib.hid (show Bn W1 (w.heap.size) by rw [← hW]; exact KpA)
  have k_P_0 : W1.cell? ⟨wa.heap.size, 0, none⟩ = some (.bool false) := by rw [← hW]; (first | (go_simp; done) | (simp; done) | (simp [go_sem]; done) | (simp [go_sem, k_T_0, k_T_1, k_T_2, k_T_3, f_T, hl_T]; done))
  have k_P_1 : W1.cell? ⟨wa.heap.size, 1, none⟩ = some (.slice none 0 0) := by rw [← hW]; (first | (go_simp; done) | (simp; done) | (simp [go_sem]; done) | (simp [go_sem, k_T_0, k_T_1, k_T_2, k_T_3, f_T, hl_T]; done))
  have k_P_2 : W1.cell? ⟨wa.heap.size, 2, none⟩ = some (.slice none 0 0) := by rw [← hW]; (first | (go_simp; done) | (simp; done) | (simp [go_sem]; done) | (simp [go_sem, k_T_0, k_T_1, k_T_2, k_T_3, f_T, hl_T]; done))
  have f_P : ∀ o, W1.frozen? ⟨wa.heap.size, o, none⟩ = false := by intro o; rw [← hW]; (first | (go_simp; done) | (simp; done) | (simp [go_sem]; done) | (simp [go_sem, k_T_0, k_T_1, k_T_2, k_T_3, f_T, hl_T]; done))
  have HX_P := Lib.hid (show Bn W1 (wa.heap.size) by rw [← hW]; exact KpA)
  replace HB := Lib.hid (show Below w.heap.size w W1 by rw [← hW]; exact BlA)
  replace hN : N ≤ W1.heap.size := by rw [← hW]; (first | omega | (simp; done) | (simp; omega))
  replace hs0 : w.heap.size ≤ W1.heap.size := by rw [← hW]; (first | omega | (simp; done) | (simp; omega))
  replace hl_T : w.heap.size < W1.heap.size := by rw [← hW]; (first | omega | (simp; done) | (simp; omega))
  have hl_P : wa.heap.size < W1.heap.size := by rw [← hW]; (first | omega | (simp; done) | (simp; omega))
  clear HL_W1
  clear hW
  refine (fisher_bad (N := N) c d a b _ hN HVg.out).mono ?_
  rintro e wb ⟨rfl, hb⟩
  have hs_wb : W1.heap.size ≤ wb.heap.size := hb.size
  replace k_T_0 : wb.cell? ⟨w.heap.size, 0, none⟩ = some (.int .i64 a) := (hb.cell (p := ⟨w.heap.size, 0, none⟩) hl_T).trans k_T_0
  replace k_T_1 : wb.cell? ⟨w.heap.size, 1, none⟩ = some (.int .i64 b) := (hb.cell (p := ⟨w.heap.size, 1, none⟩) hl_T).trans k_T_1
  replace k_T_2 : wb.cell? ⟨w.heap.size, 2, none⟩ = some (.int .i64 c) := (hb.cell (p := ⟨w.heap.size, 2, none⟩) hl_T).trans k_T_2
  replace k_T_3 : wb.cell? ⟨w.heap.size, 3, none⟩ = some (.int .i64 d) := (hb.cell (p := ⟨w.heap.size, 3, none⟩) hl_T).trans k_T_3
  replace f_T : ∀ o, wb.frozen? ⟨w.heap.size, o, none⟩ = false := fun o => (hb.frozen (p := ⟨w.heap.size, o, none⟩) hl_T).trans (f_T o)
  replace HX_T := Lib.hid (HX_T.out.below hb)
  replace k_P_0 : wb.cell? ⟨wa.heap.size, 0, none⟩ = some (.bool false) := (hb.cell (p := ⟨wa.heap.size, 0, none⟩) hl_P).trans k_P_0
  replace k_P_1 : wb.cell? ⟨wa.heap.size, 1, none⟩ = some (.slice none 0 0) := (hb.cell (p := ⟨wa.heap.size, 1, none⟩) hl_P).trans k_P_1
  replace k_P_2 : wb.cell? ⟨wa.heap.size, 2, none⟩ = some (.slice none 0 0) := (hb.cell (p := ⟨wa.heap.size, 2, none⟩) hl_P).trans k_P_2
  replace f_P : ∀ o, wb.frozen? ⟨wa.heap.size, o, none⟩ = false := fun o => (hb.frozen (p := ⟨wa.heap.size, o, none⟩) hl_P).trans (f_P o)
  replace HX_P := Lib.hid (HX_P.out.below hb)
  replace HB := Lib.hid (HB.out.trans (hb.mono hs0))
  replace hN : N ≤ wb.heap.size := Nat.le_trans hN hb.size
  replace hs0 : w.heap.size ≤ wb.heap.size := Nat.le_trans hs0 hb.size
  replace hl_T : w.heap.size < wb.heap.size := Nat.lt_of_lt_of_le hl_T hb.size
  replace hl_P : wa.heap.size < wb.heap.size := Nat.lt_of_lt_of_le hl_P hb.size
  clear hb
  go_wp2_with fail
  refine calls_name fun W2 hW => ?_
  have HL_W2 := Lib.hid (show Below wb.heap.size wb W2 by rw [← hW]; exact BlA)
  have hs_W2 : wb.heap.size ≤ W2.heap.size := by rw [← hW]; (first | omega | (simp; done) | (simp; omega))
  have hd_T_Q : w.heap.size < wb.heap.size := by omega
  have hd_P_Q : wa.heap.size < wb.heap.size := by omega
  replace k_T_0 : W2.cell? ⟨w.heap.size, 0, none⟩ = some (.int .i64 a) := (HL_W2.out.cell (p := ⟨w.heap.size, 0, none⟩) hl_T).trans k_T_0
  replace k_T_1 : W2.cell? ⟨w.heap.size, 1, none⟩ = some (.int .i64 b) := (HL_W2.out.cell (p := ⟨w.heap.size, 1, none⟩) hl_T).trans k_T_1
  replace k_T_2 : W2.cell? ⟨w.heap.size, 2, none⟩ = some (.int .i64 c) := (HL_W2.out.cell (p := ⟨w.heap.size, 2, none⟩) hl_T).trans k_T_2
  replace k_T_3 : W2.cell? ⟨w.heap.size, 3, none⟩ = some (.int .i64 d) := (HL_W2.out.cell (p := ⟨w.heap.size, 3, none⟩) hl_T).trans k_T_3
  replace f_T : ∀ o, W2.frozen? ⟨w.heap.size, o, none⟩ = false := fun o => (HL_W2.out.frozen (p := ⟨w.heap.size, o, none⟩) hl_T).trans (f_T o)
  replace HX_T := Lib.hid (show Bn W2 (w.heap.size) by rw [← hW]; exact KpA)
  replace k_P_0 : W2.cell? ⟨wa.heap.size, 0, none⟩ = some (.bool false) := (HL_W2.out.cell (p := ⟨wa.heap.size, 0, none⟩) hl_P).trans k_P_0
  replace k_P_1 : W2.cell? ⟨wa.heap.size, 1, none⟩ = some (.slice none 0 0) := (HL_W2.out.cell (p := ⟨wa.heap.size, 1, none⟩) hl_P).trans k_P_1
  replace k_P_2 : W2.cell? ⟨wa.heap.size, 2, none⟩ = some (.slice none 0 0) := (HL_W2.out.cell (p := ⟨wa.heap.size, 2, none⟩) hl_P).trans k_P_2
  replace f_P : ∀ o, W2.frozen? ⟨wa.heap.size, o, none⟩ = false := fun o => (HL_W2.out.frozen (p := ⟨wa.heap.size, o, none⟩) hl_P).trans (f_P o)
  replace HX_P := Lib.hid (show Bn W2 (wa.heap.size) by rw [← hW]; exact KpA)
  have k_Q_0 : W2.cell? ⟨wb.heap.size, 0, none⟩ = some (.bool false) := by rw [← hW]; (first | (go_simp; done) | (simp; done) | (simp [go_sem]; done) | (simp [go_sem, k_T_0, k_T_1, k_T_2, k_T_3, k_P_0, k_P_1, k_P_2, f_T, f_P, hl_T, hl_P]; done))
  have k_Q_1 : W2.cell? ⟨wb.heap.size, 1, none⟩ = some (.slice none 0 0) := by rw [← hW]; (first | (go_simp; done) | (simp; done) | (simp [go_sem]; done) | (simp [go_sem, k_T_0, k_T_1, k_T_2, k_T_3, k_P_0, k_P_1, k_P_2, f_T, f_P, hl_T, hl_P]; done))
  have k_Q_2 : W2.cell? ⟨wb.heap.size, 2, none⟩ = some (.slice none 0 0) := by rw [← hW]; (first | (go_simp; done) | (simp; done) | (simp [go_sem]; done) | (simp [go_sem, k_T_0, k_T_1, k_T_2, k_T_3, k_P_0, k_P_1, k_P_2, f_T, f_P, hl_T, hl_P]; done))
  have f_Q : ∀ o, W2.frozen? ⟨wb.heap.size, o, none⟩ = false := by intro o; rw [← hW]; (first | (go_simp; done) | (simp; done) | (simp [go_sem]; done) | (simp [go_sem, k_T_0, k_T_1, k_T_2, k_T_3, k_P_0, k_P_1, k_P_2, f_T, f_P, hl_T, hl_P]; done))
  have HX_Q := Lib.hid (show Bn W2 (wb.heap.size) by rw [← hW]; exact KpA)
  replace HB := Lib.hid (show Below w.heap.size w W2 by rw [← hW]; exact BlA)
  replace hN : N ≤ W2.heap.size := by rw [← hW]; (first | omega | (simp; done) | (simp; omega))
  replace hs0 : w.heap.size ≤ W2.heap.size := by rw [← hW]; (first | omega | (simp; done) | (simp; omega))
  replace hl_T : w.heap.size < W2.heap.size := by rw [← hW]; (first | omega | (simp; done) | (simp; omega))
  replace hl_P : wa.heap.size < W2.heap.size := by rw [← hW]; (first | omega | (simp; done) | (simp; omega))
  have hl_Q : wb.heap.size < W2.heap.size := by rw [← hW]; (first | omega | (simp; done) | (simp; omega))
  clear HL_W2
  clear hW
  refine (fisher_bad (N := N) b a d c _ hN HVs.out).mono ?_
  rintro e wc ⟨rfl, hb⟩
  have hs_wc : W2.heap.size ≤ wc.heap.size := hb.size
  replace k_T_0 : wc.cell? ⟨w.heap.size, 0, none⟩ = some (.int .i64 a) := (hb.cell (p := ⟨w.heap.size, 0, none⟩) hl_T).trans k_T_0
  replace k_T_1 : wc.cell? ⟨w.heap.size, 1, none⟩ = some (.int .i64 b) := (hb.cell (p := ⟨w.heap.size, 1, none⟩) hl_T).trans k_T_1
  replace k_T_2 : wc.cell? ⟨w.heap.size, 2, none⟩ = some (.int .i64 c) := (hb.cell (p := ⟨w.heap.size, 2, none⟩) hl_T).trans k_T_2
  replace k_T_3 : wc.cell? ⟨w.heap.size, 3, none⟩ = some (.int .i64 d) := (hb.cell (p := ⟨w.heap.size, 3, none⟩) hl_T).trans k_T_3
  replace f_T : ∀ o, wc.frozen? ⟨w.heap.size, o, none⟩ = false := fun o => (hb.frozen (p := ⟨w.heap.size, o, none⟩) hl_T).trans (f_T o)
  replace HX_T := Lib.hid (HX_T.out.below hb)
  replace k_P_0 : wc.cell? ⟨wa.heap.size, 0, none⟩ = some (.bool false) := (hb.cell (p := ⟨wa.heap.size, 0, none⟩) hl_P).trans k_P_0
  replace k_P_1 : wc.cell? ⟨wa.heap.size, 1, none⟩ = some (.slice none 0 0) := (hb.cell (p := ⟨wa.heap.size, 1, none⟩) hl_P).trans k_P_1
  replace k_P_2 : wc.cell? ⟨wa.heap.size, 2, none⟩ = some (.slice none 0 0) := (hb.cell (p := ⟨wa.heap.size, 2, none⟩) hl_P).trans k_P_2
  replace f_P : ∀ o, wc.frozen? ⟨wa.heap.size, o, none⟩ = false := fun o => (hb.frozen (p := ⟨wa.heap.size, o, none⟩) hl_P).trans (f_P o)
  replace HX_P := Lib.hid (HX_P.out.below hb)
  replace k_Q_0 : wc.cell? ⟨wb.heap.size, 0, none⟩ = some (.bool false) := (hb.cell (p := ⟨wb.heap.size, 0, none⟩) hl_Q).trans k_Q_0
  replace k_Q_1 : wc.cell? ⟨wb.heap.size, 1, none⟩ = some (.slice none 0 0) := (hb.cell (p := ⟨wb.heap.size, 1, none⟩) hl_Q).trans k_Q_1
  replace k_Q_2 : wc.cell? ⟨wb.heap.size, 2, none⟩ = some (.slice none 0 0) := (hb.cell (p := ⟨wb.heap.size, 2, none⟩) hl_Q).trans k_Q_2
  replace f_Q : ∀ o, wc.frozen? ⟨wb.heap.size, o, none⟩ = false := fun o => (hb.frozen (p := ⟨wb.heap.size, o, none⟩) hl_Q).trans (f_Q o)
  replace HX_Q := Lib.hid (HX_Q.out.below hb)
  replace HB := Lib.hid (HB.out.trans (hb.mono hs0))
  replace hN : N ≤ wc.heap.size := Nat.le_trans hN hb.size
  replace hs0 : w.heap.size ≤ wc.heap.size := Nat.le_trans hs0 hb.size
  replace hl_T : w.heap.size < wc.heap.size := Nat.lt_of_lt_of_le hl_T hb.size
  replace hl_P : wa.heap.size < wc.heap.size := Nat.lt_of_lt_of_le hl_P hb.size
  replace hl_Q : wb.heap.size < wc.heap.size := Nat.lt_of_lt_of_le hl_Q hb.size
  clear hb
  go_wp2_with fail
  refine calls_name fun W3 hW => ?_
  have HL_W3 := Lib.hid (show Below wc.heap.size wc W3 by rw [← hW]; exact BlA)
  have hs_W3 : wc.heap.size ≤ W3.heap.size := by rw [← hW]; (first | omega | (simp; done) | (simp; omega))
  have hd_T_R : w.heap.size < wc.heap.size := by omega
  have hd_P_R : wa.heap.size < wc.heap.size := by omega
  have hd_Q_R : wb.heap.size < wc.heap.size := by omega
  have HZ1 := Lib.hid (Nt.zero N W3)
  have HZ2 := Lib.hid (Nt.zero N W3)
  replace k_T_0 : W3.cell? ⟨w.heap.size, 0, none⟩ = some (.int .i64 a) := (HL_W3.out.cell (p := ⟨w.heap.size, 0, none⟩) hl_T).trans k_T_0
  replace k_T_1 : W3.cell? ⟨w.heap.size, 1, none⟩ = some (.int .i64 b) := (HL_W3.out.cell (p := ⟨w.heap.size, 1, none⟩) hl_T).trans k_T_1
  replace k_T_2 : W3.cell? ⟨w.heap.size, 2, none⟩ = some (.int .i64 c) := (HL_W3.out.cell (p := ⟨w.heap.size, 2, none⟩) hl_T).trans k_T_2
  replace k_T_3 : W3.cell? ⟨w.heap.size, 3, none⟩ = some (.int .i64 d) := (HL_W3.out.cell (p := ⟨w.heap.size, 3, none⟩) hl_T).trans k_T_3
  replace f_T : ∀ o, W3.frozen? ⟨w.heap.size, o, none⟩ = false := fun o => (HL_W3.out.frozen (p := ⟨w.heap.size, o, none⟩) hl_T).trans (f_T o)
  replace HX_T := Lib.hid (show Bn W3 (w.heap.size) by rw [← hW]; exact KpA)
  replace k_P_0 : W3.cell? ⟨wa.heap.size, 0, none⟩ = some (.bool false) := (HL_W3.out.cell (p := ⟨wa.heap.size, 0, none⟩) hl_P).trans k_P_0
  replace k_P_1 : W3.cell? ⟨wa.heap.size, 1, none⟩ = some (.slice none 0 0) := (HL_W3.out.cell (p := ⟨wa.heap.size, 1, none⟩) hl_P).trans k_P_1
  replace k_P_2 : W3.cell? ⟨wa.heap.size, 2, none⟩ = some (.slice none 0 0) := (HL_W3.out.cell (p := ⟨wa.heap.size, 2, none⟩) hl_P).trans k_P_2
  replace f_P : ∀ o, W3.frozen? ⟨wa.heap.size, o, none⟩ = false := fun o => (HL_W3.out.frozen (p := ⟨wa.heap.size, o, none⟩) hl_P).trans (f_P o)
  replace HX_P := Lib.hid (show Bn W3 (wa.heap.size) by rw [← hW]; exact KpA)
  replace k_Q_0 : W3.cell? ⟨wb.heap.size, 0, none⟩ = some (.bool false) := (HL_W3.out.cell (p := ⟨wb.heap.size, 0, none⟩) hl_Q).trans k_Q_0
  replace k_Q_1 : W3.cell? ⟨wb.heap.size, 1, none⟩ = some (.slice none 0 0) := (HL_W3.out.cell (p := ⟨wb.heap.size, 1, none⟩) hl_Q).trans k_Q_1
  replace k_Q_2 : W3.cell? ⟨wb.heap.size, 2, none⟩ = some (.slice none 0 0) := (HL_W3.out.cell (p := ⟨wb.heap.size, 2, none⟩) hl_Q).trans k_Q_2
  replace f_Q : ∀ o, W3.frozen? ⟨wb.heap.size, o, none⟩ = false := fun o => (HL_W3.out.frozen (p := ⟨wb.heap.size, o, none⟩) hl_Q).trans (f_Q o)
  replace HX_Q := Lib.hid (show Bn W3 (wb.heap.size) by rw [← hW]; exact KpA)
  have k_R_0 : W3.cell? ⟨wc.heap.size, 0, none⟩ = some (.bool false) := by rw [← hW]; (first | (go_simp; done) | (simp; done) | (simp [go_sem]; done) | (simp [go_sem, k_T_0, k_T_1, k_T_2, k_T_3, k_P_0, k_P_1, k_P_2, k_Q_0, k_Q_1, k_Q_2, f_T, f_P, f_Q, hl_T, hl_P, hl_Q]; done))
  have k_R_1 : W3.cell? ⟨wc.heap.size, 1, none⟩ = some (.slice none 0 0) := by rw [← hW]; (first | (go_simp; done) | (simp; done) | (simp [go_sem]; done) | (simp [go_sem, k_T_0, k_T_1, k_T_2, k_T_3, k_P_0, k_P_1, k_P_2, k_Q_0, k_Q_1, k_Q_2, f_T, f_P, f_Q, hl_T, hl_P, hl_Q]; done))
  have k_R_2 : W3.cell? ⟨wc.heap.size, 2, none⟩ = some (.slice none 0 0) := by rw [← hW]; (first | (go_simp; done) | (simp; done) | (simp [go_sem]; done) | (simp [go_sem, k_T_0, k_T_1, k_T_2, k_T_3, k_P_0, k_P_1, k_P_2, k_Q_0, k_Q_1, k_Q_2, f_T, f_P, f_Q, hl_T, hl_P, hl_Q]; done))
  have f_R : ∀ o, W3.frozen? ⟨wc.heap.size, o, none⟩ = false := by intro o; rw [← hW]; (first | (go_simp; done) | (simp; done) | (simp [go_sem]; done) | (simp [go_sem, k_T_0, k_T_1, k_T_2, k_T_3, k_P_0, k_P_1, k_P_2, k_Q_0, k_Q_1, k_Q_2, f_T, f_P, f_Q, hl_T, hl_P, hl_Q]; done))
  have HX_R := Lib.hid (show Bn W3 (wc.heap.size) by rw [← hW]; exact KpA)
  replace HB := Lib.hid (show Below w.heap.size w W3 by rw [← hW]; exact BlA)
  replace hN : N ≤ W3.heap.size := by rw [← hW]; (first | omega | (simp; done) | (simp; omega))
  replace hs0 : w.heap.size ≤ W3.heap.size := by rw [← hW]; (first | omega | (simp; done) | (simp; omega))
  replace hl_T : w.heap.size < W3.heap.size := by rw [← hW]; (first | omega | (simp; done) | (simp; omega))
  replace hl_P : wa.heap.size < W3.heap.size := by rw [← hW]; (first | omega | (simp; done) | (simp; omega))
  replace hl_Q : wb.heap.size < W3.heap.size := by rw [← hW]; (first | omega | (simp; done) | (simp; omega))
  have hl_R : wc.heap.size < W3.heap.size := by rw [← hW]; (first | omega | (simp; done) | (simp; omega))
  clear HL_W3
  clear hW
  clear hl_T f_T HX_T k_T_0 k_T_1 k_T_2 k_T_3
  refine (SameRatio_any (N := N) _ _ _ _ _ _ _ _ _ _ _ _ _ _ hN HZ1.out HZ1.out HZ2.out HZ2.out).mono ?_
  rintro e wd1 ⟨rfl, hb⟩
  have hs_wd1 : W3.heap.size ≤ wd1.heap.size := hb.size
  replace k_P_0 : wd1.cell? ⟨wa.heap.size, 0, none⟩ = some (.bool false) := (hb.cell (p := ⟨wa.heap.size, 0, none⟩) hl_P).trans k_P_0
  replace k_P_1 : wd1.cell? ⟨wa.heap.size, 1, none⟩ = some (.slice none 0 0) := (hb.cell (p := ⟨wa.heap.size, 1, none⟩) hl_P).trans k_P_1
  replace k_P_2 : wd1.cell? ⟨wa.heap.size, 2, none⟩ = some (.slice none 0 0) := (hb.cell (p := ⟨wa.heap.size, 2, none⟩) hl_P).trans k_P_2
  replace f_P : ∀ o, wd1.frozen? ⟨wa.heap.size, o, none⟩ = false := fun o => (hb.frozen (p := ⟨wa.heap.size, o, none⟩) hl_P).trans (f_P o)
  replace HX_P := Lib.hid (HX_P.out.below hb)
  replace k_Q_0 : wd1.cell? ⟨wb.heap.size, 0, none⟩ = some (.bool false) := (hb.cell (p := ⟨wb.heap.size, 0, none⟩) hl_Q).trans k_Q_0
  replace k_Q_1 : wd1.cell? ⟨wb.heap.size, 1, none⟩ = some (.slice none 0 0) := (hb.cell (p := ⟨wb.heap.size, 1, none⟩) hl_Q).trans k_Q_1
  replace k_Q_2 : wd1.cell? ⟨wb.heap.size, 2, none⟩ = some (.slice none 0 0) := (hb.cell (p := ⟨wb.heap.size, 2, none⟩) hl_Q).trans k_Q_2
  replace f_Q : ∀ o, wd1.frozen? ⟨wb.heap.size, o, none⟩ = false := fun o => (hb.frozen (p := ⟨wb.heap.size, o, none⟩) hl_Q).trans (f_Q o)
  replace HX_Q := Lib.hid (HX_Q.out.below hb)
  replace k_R_0 : wd1.cell? ⟨wc.heap.size, 0, none⟩ = some (.bool false) := (hb.cell (p := ⟨wc.heap.size, 0, none⟩) hl_R).trans k_R_0
  replace k_R_1 : wd1.cell? ⟨wc.heap.size, 1, none⟩ = some (.slice none 0 0) := (hb.cell (p := ⟨wc.heap.size, 1, none⟩) hl_R).trans k_R_1
  replace k_R_2 : wd1.cell? ⟨wc.heap.size, 2, none⟩ = some (.slice none 0 0) := (hb.cell (p := ⟨wc.heap.size, 2, none⟩) hl_R).trans k_R_2
  replace f_R : ∀ o, wd1.frozen? ⟨wc.heap.size, o, none⟩ = false := fun o => (hb.frozen (p := ⟨wc.heap.size, o, none⟩) hl_R).trans (f_R o)
  replace HX_R := Lib.hid (HX_R.out.below hb)
  replace HB := Lib.hid (HB.out.trans (hb.mono hs0))
  replace hN : N ≤ wd1.heap.size := Nat.le_trans hN hb.size
  replace hs0 : w.heap.size ≤ wd1.heap.size := Nat.le_trans hs0 hb.size
  replace hl_P : wa.heap.size < wd1.heap.size := Nat.lt_of_lt_of_le hl_P hb.size
  replace hl_Q : wb.heap.size < wd1.heap.size := Nat.lt_of_lt_of_le hl_Q hb.size
  replace hl_R : wc.heap.size < wd1.heap.size := Nat.lt_of_lt_of_le hl_R hb.size
  clear hb
  clear HZ1 HZ2
  go_wp2_with fail
  refine calls_name fun W4 hW => ?_
  have HL_W4 := Lib.hid (show Below wd1.heap.size wd1 W4 by rw [← hW]; exact BlA)
  have hs_W4 : wd1.heap.size ≤ W4.heap.size := by rw [← hW]; (first | omega | (simp; done) | (simp; omega))
  have HZ1 := Lib.hid (Nt.zero N W4)
  have HZ2 := Lib.hid (Nt.zero N W4)
  replace k_P_0 : W4.cell? ⟨wa.heap.size, 0, none⟩ = some (.bool false) := (HL_W4.out.cell (p := ⟨wa.heap.size, 0, none⟩) hl_P).trans k_P_0
  replace k_P_1 : W4.cell? ⟨wa.heap.size, 1, none⟩ = some (.slice none 0 0) := (HL_W4.out.cell (p := ⟨wa.heap.size, 1, none⟩) hl_P).trans k_P_1
  replace k_P_2 : W4.cell? ⟨wa.heap.size, 2, none⟩ = some (.slice none 0 0) := (HL_W4.out.cell (p := ⟨wa.heap.size, 2, none⟩) hl_P).trans k_P_2
  replace f_P : ∀ o, W4.frozen? ⟨wa.heap.size, o, none⟩ = false := fun o => (HL_W4.out.frozen (p := ⟨wa.heap.size, o, none⟩) hl_P).trans (f_P o)
  replace HX_P := Lib.hid (show Bn W4 (wa.heap.size) by rw [← hW]; exact KpA)
  replace k_Q_0 : W4.cell? ⟨wb.heap.size, 0, none⟩ = some (.bool false) := (HL_W4.out.cell (p := ⟨wb.heap.size, 0, none⟩) hl_Q).trans k_Q_0
  replace k_Q_1 : W4.cell? ⟨wb.heap.size, 1, none⟩ = some (.slice none 0 0) := (HL_W4.out.cell (p := ⟨wb.heap.size, 1, none⟩) hl_Q).trans k_Q_1
  replace k_Q_2 : W4.cell? ⟨wb.heap.size, 2, none⟩ = some (.slice none 0 0) := (HL_W4.out.cell (p := ⟨wb.heap.size, 2, none⟩) hl_Q).trans k_Q_2
  replace f_Q : ∀ o, W4.frozen? ⟨wb.heap.size, o, none⟩ = false := fun o => (HL_W4.out.frozen (p := ⟨wb.heap.size, o, none⟩) hl_Q).trans (f_Q o)
  replace HX_Q := Lib.hid (show Bn W4 (wb.heap.size) by rw [← hW]; exact KpA)
  replace k_R_0 : W4.cell? ⟨wc.heap.size, 0, none⟩ = some (.bool false) := (HL_W4.out.cell (p := ⟨wc.heap.size, 0, none⟩) hl_R).trans k_R_0
  replace k_R_1 : W4.cell? ⟨wc.heap.size, 1, none⟩ = some (.slice none 0 0) := (HL_W4.out.cell (p := ⟨wc.heap.size, 1, none⟩) hl_R).trans k_R_1
  replace k_R_2 : W4.cell? ⟨wc.heap.size, 2, none⟩ = some (.slice none 0 0) := (HL_W4.out.cell (p := ⟨wc.heap.size, 2, none⟩) hl_R).trans k_R_2
  replace f_R : ∀ o, W4.frozen? ⟨wc.heap.size, o, none⟩ = false := fun o => (HL_W4.out.frozen (p := ⟨wc.heap.size, o, none⟩) hl_R).trans (f_R o)
  replace HX_R := Lib.hid (show Bn W4 (wc.heap.size) by rw [← hW]; exact KpA)
  replace HB := Lib.hid (show Below w.heap.size w W4 by rw [← hW]; exact BlA)
  replace hN : N ≤ W4.heap.size := by rw [← hW]; (first | omega | (simp; done) | (simp; omega))
  replace hs0 : w.heap.size ≤ W4.heap.size := by rw [← hW]; (first | omega | (simp; done) | (simp; omega))
  replace hl_P : wa.heap.size < W4.heap.size := by rw [← hW]; (first | omega | (simp; done) | (simp; omega))
  replace hl_Q : wb.heap.size < W4.heap.size := by rw [← hW]; (first | omega | (simp; done) | (simp; omega))
  replace hl_R : wc.heap.size < W4.heap.size := by rw [← hW]; (first | omega | (simp; done) | (simp; omega))
  clear HL_W4
  clear hW
  refine (SameRatio_any (N := N) _ _ _ _ _ _ _ _ _ _ _ _ _ _ hN HZ1.out HZ1.out HZ2.out HZ2.out).mono ?_
  rintro e wd2 ⟨rfl, hb⟩
  have hs_wd2 : W4.heap.size ≤ wd2.heap.size := hb.size
  replace k_P_0 : wd2.cell? ⟨wa.heap.size, 0, none⟩ = some (.bool false) := (hb.cell (p := ⟨wa.heap.size, 0, none⟩) hl_P).trans k_P_0
  replace k_P_1 : wd2.cell? ⟨wa.heap.size, 1, none⟩ = some (.slice none 0 0) := (hb.cell (p := ⟨wa.heap.size, 1, none⟩) hl_P).trans k_P_1
  replace k_P_2 : wd2.cell? ⟨wa.heap.size, 2, none⟩ = some (.slice none 0 0) := (hb.cell (p := ⟨wa.heap.size, 2, none⟩) hl_P).trans k_P_2
  replace f_P : ∀ o, wd2.frozen? ⟨wa.heap.size, o, none⟩ = false := fun o => (hb.frozen (p := ⟨wa.heap.size, o, none⟩) hl_P).trans (f_P o)
  replace HX_P := Lib.hid (HX_P.out.below hb)
  replace k_Q_0 : wd2.cell? ⟨wb.heap.size, 0, none⟩ = some (.bool false) := (hb.cell (p := ⟨wb.heap.size, 0, none⟩) hl_Q).trans k_Q_0
  replace k_Q_1 : wd2.cell? ⟨wb.heap.size, 1, none⟩ = some (.slice none 0 0) := (hb.cell (p := ⟨wb.heap.size, 1, none⟩) hl_Q).trans k_Q_1
  replace k_Q_2 : wd2.cell? ⟨wb.heap.size, 2, none⟩ = some (.slice none 0 0) := (hb.cell (p := ⟨wb.heap.size, 2, none⟩) hl_Q).trans k_Q_2
  replace f_Q : ∀ o, wd2.frozen? ⟨wb.heap.size, o, none⟩ = false := fun o => (hb.frozen (p := ⟨wb.heap.size, o, none⟩) hl_Q).trans (f_Q o)
  replace HX_Q := Lib.hid (HX_Q.out.below hb)
  replace k_R_0 : wd2.cell? ⟨wc.heap.size, 0, none⟩ = some (.bool false) := (hb.cell (p := ⟨wc.heap.size, 0, none⟩) hl_R).trans k_R_0
  replace k_R_1 : wd2.cell? ⟨wc.heap.size, 1, none⟩ = some (.slice none 0 0) := (hb.cell (p := ⟨wc.heap.size, 1, none⟩) hl_R).trans k_R_1
  replace k_R_2 : wd2.cell? ⟨wc.heap.size, 2, none⟩ = some (.slice none 0 0) := (hb.cell (p := ⟨wc.heap.size, 2, none⟩) hl_R).trans k_R_2
  replace f_R : ∀ o, wd2.frozen? ⟨wc.heap.size, o, none⟩ = false := fun o => (hb.frozen (p := ⟨wc.heap.size, o, none⟩) hl_R).trans (f_R o)
  replace HX_R := Lib.hid (HX_R.out.below hb)
  replace HB := Lib.hid (HB.out.trans (hb.mono hs0))
  replace hN : N ≤ wd2.heap.size := Nat.le_trans hN hb.size
  replace hs0 : w.heap.size ≤ wd2.heap.size := Nat.le_trans hs0 hb.size
  replace hl_P : wa.heap.size < wd2.heap.size := Nat.lt_of_lt_of_le hl_P hb.size
  replace hl_Q : wb.heap.size < wd2.heap.size := Nat.lt_of_lt_of_le hl_Q hb.size
  replace hl_R : wc.heap.size < wd2.heap.size := Nat.lt_of_lt_of_le hl_R hb.size
  clear hb
  clear HZ1 HZ2
  clear hl_R f_R HX_R k_R_0 k_R_1 k_R_2
  go_wp2_with fail
  refine region_name fun W4b hW => ?_
  have HL_W4b := Lib.hid (show Below wd2.heap.size wd2 W4b by rw [← hW]; exact BlA)
  have hs_W4b : wd2.heap.size ≤ W4b.heap.size := by rw [← hW]; (first | omega | (simp; done) | (simp; omega))
  replace k_P_0 : W4b.cell? ⟨wa.heap.size, 0, none⟩ = some (.bool false) := (HL_W4b.out.cell (p := ⟨wa.heap.size, 0, none⟩) hl_P).trans k_P_0
  replace k_P_1 : W4b.cell? ⟨wa.heap.size, 1, none⟩ = some (.slice none 0 0) := (HL_W4b.out.cell (p := ⟨wa.heap.size, 1, none⟩) hl_P).trans k_P_1
  replace k_P_2 : W4b.cell? ⟨wa.heap.size, 2, none⟩ = some (.slice none 0 0) := (HL_W4b.out.cell (p := ⟨wa.heap.size, 2, none⟩) hl_P).trans k_P_2
  replace f_P : ∀ o, W4b.frozen? ⟨wa.heap.size, o, none⟩ = false := fun o => (HL_W4b.out.frozen (p := ⟨wa.heap.size, o, none⟩) hl_P).trans (f_P o)
  replace HX_P := Lib.hid (show Bn W4b (wa.heap.size) by rw [← hW]; exact KpA)
  replace k_Q_0 : W4b.cell? ⟨wb.heap.size, 0, none⟩ = some (.bool false) := (HL_W4b.out.cell (p := ⟨wb.heap.size, 0, none⟩) hl_Q).trans k_Q_0
  replace k_Q_1 : W4b.cell? ⟨wb.heap.size, 1, none⟩ = some (.slice none 0 0) := (HL_W4b.out.cell (p := ⟨wb.heap.size, 1, none⟩) hl_Q).trans k_Q_1
  replace k_Q_2 : W4b.cell? ⟨wb.heap.size, 2, none⟩ = some (.slice none 0 0) := (HL_W4b.out.cell (p := ⟨wb.heap.size, 2, none⟩) hl_Q).trans k_Q_2
  replace f_Q : ∀ o, W4b.frozen? ⟨wb.heap.size, o, none⟩ = false := fun o => (HL_W4b.out.frozen (p := ⟨wb.heap.size, o, none⟩) hl_Q).trans (f_Q o)
  replace HX_Q := Lib.hid (show Bn W4b (wb.heap.size) by rw [← hW]; exact KpA)
  replace HB := Lib.hid (show Below w.heap.size w W4b by rw [← hW]; exact BlA)
  replace hN : N ≤ W4b.heap.size := by rw [← hW]; (first | omega | (simp; done) | (simp; omega))
  replace hs0 : w.heap.size ≤ W4b.heap.size := by rw [← hW]; (first | omega | (simp; done) | (simp; omega))
  replace hl_P : wa.heap.size < W4b.heap.size := by rw [← hW]; (first | omega | (simp; done) | (simp; omega))
  replace hl_Q : wb.heap.size < W4b.heap.size := by rw [← hW]; (first | omega | (simp; done) | (simp; omega))
  clear HL_W4b
  clear hW
  go_quiet (fail)
  go_wp2_with fail
  refine calls_name fun W5 hW => ?_
  have hb : Below W4b.heap.size W4b W5 := by rw [← hW]; exact bel_drewN _ _ _
  clear hW
  have hs_W5 : W4b.heap.size ≤ W5.heap.size := hb.size
  replace k_P_0 : W5.cell? ⟨wa.heap.size, 0, none⟩ = some (.bool false) := (hb.cell (p := ⟨wa.heap.size, 0, none⟩) hl_P).trans k_P_0
  replace k_P_1 : W5.cell? ⟨wa.heap.size, 1, none⟩ = some (.slice none 0 0) := (hb.cell (p := ⟨wa.heap.size, 1, none⟩) hl_P).trans k_P_1
  replace k_P_2 : W5.cell? ⟨wa.heap.size, 2, none⟩ = some (.slice none 0 0) := (hb.cell (p := ⟨wa.heap.size, 2, none⟩) hl_P).trans k_P_2
  replace f_P : ∀ o, W5.frozen? ⟨wa.heap.size, o, none⟩ = false := fun o => (hb.frozen (p := ⟨wa.heap.size, o, none⟩) hl_P).trans (f_P o)
  replace HX_P := Lib.hid (HX_P.out.below hb)
  replace k_Q_0 : W5.cell? ⟨wb.heap.size, 0, none⟩ = some (.bool false) := (hb.cell (p := ⟨wb.heap.size, 0, none⟩) hl_Q).trans k_Q_0
  replace k_Q_1 : W5.cell? ⟨wb.heap.size, 1, none⟩ = some (.slice none 0 0) := (hb.cell (p := ⟨wb.heap.size, 1, none⟩) hl_Q).trans k_Q_1
  replace k_Q_2 : W5.cell? ⟨wb.heap.size, 2, none⟩ = some (.slice none 0 0) := (hb.cell (p := ⟨wb.heap.size, 2, none⟩) hl_Q).trans k_Q_2
  replace f_Q : ∀ o, W5.frozen? ⟨wb.heap.size, o, none⟩ = false := fun o => (hb.frozen (p := ⟨wb.heap.size, o, none⟩) hl_Q).trans (f_Q o)
  replace HX_Q := Lib.hid (HX_Q.out.below hb)
  replace HB := Lib.hid (HB.out.trans (hb.mono hs0))
  replace hN : N ≤ W5.heap.size := Nat.le_trans hN hb.size
  replace hs0 : w.heap.size ≤ W5.heap.size := Nat.le_trans hs0 hb.size
  replace hl_P : wa.heap.size < W5.heap.size := Nat.lt_of_lt_of_le hl_P hb.size
  replace hl_Q : wb.heap.size < W5.heap.size := Nat.lt_of_lt_of_le hl_Q hb.size
  clear hb
  refine (sign_ok (N := N) x y _ hN hx hy p9 HP9.out).mono ?_
  rintro e we ⟨ru, cu, ru2, cu2, rfl, hn, hn', hb⟩
  have hs_we : W5.heap.size ≤ we.heap.size := hb.size
  replace k_P_0 : we.cell? ⟨wa.heap.size, 0, none⟩ = some (.bool false) := (hb.cell (p := ⟨wa.heap.size, 0, none⟩) hl_P).trans k_P_0
  replace k_P_1 : we.cell? ⟨wa.heap.size, 1, none⟩ = some (.slice none 0 0) := (hb.cell (p := ⟨wa.heap.size, 1, none⟩) hl_P).trans k_P_1
  replace k_P_2 : we.cell? ⟨wa.heap.size, 2, none⟩ = some (.slice none 0 0) := (hb.cell (p := ⟨wa.heap.size, 2, none⟩) hl_P).trans k_P_2
  replace f_P : ∀ o, we.frozen? ⟨wa.heap.size, o, none⟩ = false := fun o => (hb.frozen (p := ⟨wa.heap.size, o, none⟩) hl_P).trans (f_P o)
  replace HX_P := Lib.hid (HX_P.out.below hb)
  replace k_Q_0 : we.cell? ⟨wb.heap.size, 0, none⟩ = some (.bool false) := (hb.cell (p := ⟨wb.heap.size, 0, none⟩) hl_Q).trans k_Q_0
  replace k_Q_1 : we.cell? ⟨wb.heap.size, 1, none⟩ = some (.slice none 0 0) := (hb.cell (p := ⟨wb.heap.size, 1, none⟩) hl_Q).trans k_Q_1
  replace k_Q_2 : we.cell? ⟨wb.heap.size, 2, none⟩ = some (.slice none 0 0) := (hb.cell (p := ⟨wb.heap.size, 2, none⟩) hl_Q).trans k_Q_2
  replace f_Q : ∀ o, we.frozen? ⟨wb.heap.size, o, none⟩ = false := fun o => (hb.frozen (p := ⟨wb.heap.size, o, none⟩) hl_Q).trans (f_Q o)
  replace HX_Q := Lib.hid (HX_Q.out.below hb)
  replace HB := Lib.hid (HB.out.trans (hb.mono hs0))
  replace hN : N ≤ we.heap.size := Nat.le_trans hN hb.size
  replace hs0 : w.heap.size ≤ we.heap.size := Nat.le_trans hs0 hb.size
  replace hl_P : wa.heap.size < we.heap.size := Nat.lt_of_lt_of_le hl_P hb.size
  replace hl_Q : wb.heap.size < we.heap.size := Nat.lt_of_lt_of_le hl_Q hb.size
  clear hb
  have HU1 := Lib.hid hn
  clear hn
  have HU2 := Lib.hid hn'
  clear hn'
  go_wp2_with fail
  refine calls_name fun W6 hW => ?_
  have hs_W6 : we.heap.size ≤ W6.heap.size := by rw [← hW]; (first | omega | (simp; done) | (simp; omega))
  have HK_W6 := Lib.hid (show Kp N we W6 by rw [← hW]; exact KpA)
  replace k_P_0 : W6.cell? ⟨wa.heap.size, 0, none⟩ = some (.bool (decide ((p9).num < 0))) := by rw [← hW]; (first | (go_simp; done) | (simp [go_sem, k_P_0]; done) | (simp [go_sem, k_P_0, k_P_1, k_P_2]; done) | (simp [go_sem, k_P_0, k_P_1, k_P_2, k_Q_0, k_Q_1, k_Q_2, f_P, f_Q, hl_P, hl_Q]; done))
  replace k_P_1 : W6.cell? ⟨wa.heap.size, 1, none⟩ = some (.slice ru (nlen (p9).num.natAbs) cu) := by rw [← hW]; (first | (go_simp; done) | (simp [go_sem, k_P_1]; done) | (simp [go_sem, k_P_0, k_P_1, k_P_2]; done) | (simp [go_sem, k_P_0, k_P_1, k_P_2, k_Q_0, k_Q_1, k_Q_2, f_P, f_Q, hl_P, hl_Q]; done))
  replace k_P_2 : W6.cell? ⟨wa.heap.size, 2, none⟩ = some (.slice ru2 (nlen (p9).den) cu2) := by rw [← hW]; (first | (go_simp; done) | (simp [go_sem, k_P_2]; done) | (simp [go_sem, k_P_0, k_P_1, k_P_2]; done) | (simp [go_sem, k_P_0, k_P_1, k_P_2, k_Q_0, k_Q_1, k_Q_2, f_P, f_Q, hl_P, hl_Q]; done))
  replace f_P : ∀ o, W6.frozen? ⟨wa.heap.size, o, none⟩ = false := by intro o; rw [← hW]; (first | with_reducible exact f_P o | (simp [go_sem, f_P]; done) | (simp [go_sem, f_P, hl_P]; done) | (go_simp; done) | (simp [go_sem, k_P_0, k_P_1, k_P_2, k_Q_0, k_Q_1, k_Q_2, f_P, f_Q, hl_P, hl_Q]; done))
  replace HX_P := Lib.hid (show Bn W6 (wa.heap.size) by rw [← hW]; exact KpA)
  replace k_Q_0 : W6.cell? ⟨wb.heap.size, 0, none⟩ = some (.bool false) := by rw [← hW]; (first | with_reducible exact k_Q_0 | (simp [go_sem, k_Q_0]; done) | (simp [go_sem, k_Q_0, hl_Q]; done) | (go_simp; done) | (simp [go_sem, k_P_0, k_P_1, k_P_2, k_Q_0, k_Q_1, k_Q_2, f_P, f_Q, hl_P, hl_Q]; done))
  replace k_Q_1 : W6.cell? ⟨wb.heap.size, 1, none⟩ = some (.slice none 0 0) := by rw [← hW]; (first | with_reducible exact k_Q_1 | (simp [go_sem, k_Q_1]; done) | (simp [go_sem, k_Q_1, hl_Q]; done) | (go_simp; done) | (simp [go_sem, k_P_0, k_P_1, k_P_2, k_Q_0, k_Q_1, k_Q_2, f_P, f_Q, hl_P, hl_Q]; done))
  replace k_Q_2 : W6.cell? ⟨wb.heap.size, 2, none⟩ = some (.slice none 0 0) := by rw [← hW]; (first | with_reducible exact k_Q_2 | (simp [go_sem, k_Q_2]; done) | (simp [go_sem, k_Q_2, hl_Q]; done) | (go_simp; done) | (simp [go_sem, k_P_0, k_P_1, k_P_2, k_Q_0, k_Q_1, k_Q_2, f_P, f_Q, hl_P, hl_Q]; done))
  replace f_Q : ∀ o, W6.frozen? ⟨wb.heap.size, o, none⟩ = false := by intro o; rw [← hW]; (first | with_reducible exact f_Q o | (simp [go_sem, f_Q]; done) | (simp [go_sem, f_Q, hl_Q]; done) | (go_simp; done) | (simp [go_sem, k_P_0, k_P_1, k_P_2, k_Q_0, k_Q_1, k_Q_2, f_P, f_Q, hl_P, hl_Q]; done))
  replace HX_Q := Lib.hid (show Bn W6 (wb.heap.size) by rw [← hW]; exact KpA)
  replace HU1 := Lib.hid (HU1.out.keep HK_W6.out)
  replace HU2 := Lib.hid (HU2.out.keep HK_W6.out)
  replace HB := Lib.hid (show Below w.heap.size w W6 by rw [← hW]; exact BlA)
  replace hN : N ≤ W6.heap.size := by rw [← hW]; (first | omega | (simp; done) | (simp; omega))
  replace hs0 : w.heap.size ≤ W6.heap.size := by rw [← hW]; (first | omega | (simp; done) | (simp; omega))
  replace hl_P : wa.heap.size < W6.heap.size := by rw [← hW]; (first | omega | (simp; done) | (simp; omega))
  replace hl_Q : wb.heap.size < W6.heap.size := by rw [← hW]; (first | omega | (simp; done) | (simp; omega))
  clear hW HK_W6
  refine (sign_ok (N := N) y x _ hN hy hx p9 HP9'.out).mono ?_
  rintro e wf ⟨rv, cv, rv2, cv2, rfl, hn, hn', hb⟩
  have hs_wf : W6.heap.size ≤ wf.heap.size := hb.size
  replace k_P_0 : wf.cell? ⟨wa.heap.size, 0, none⟩ = some (.bool (decide ((p9).num < 0))) := (hb.cell (p := ⟨wa.heap.size, 0, none⟩) hl_P).trans k_P_0
  replace k_P_1 : wf.cell? ⟨wa.heap.size, 1, none⟩ = some (.slice ru (nlen (p9).num.natAbs) cu) := (hb.cell (p := ⟨wa.heap.size, 1, none⟩) hl_P).trans k_P_1
  replace k_P_2 : wf.cell? ⟨wa.heap.size, 2, none⟩ = some (.slice ru2 (nlen (p9).den) cu2) := (hb.cell (p := ⟨wa.heap.size, 2, none⟩) hl_P).trans k_P_2
  replace f_P : ∀ o, wf.frozen? ⟨wa.heap.size, o, none⟩ = false := fun o => (hb.frozen (p := ⟨wa.heap.size, o, none⟩) hl_P).trans (f_P o)
  replace HX_P := Lib.hid (HX_P.out.below hb)
  replace k_Q_0 : wf.cell? ⟨wb.heap.size, 0, none⟩ = some (.bool false) := (hb.cell (p := ⟨wb.heap.size, 0, none⟩) hl_Q).trans k_Q_0
  replace k_Q_1 : wf.cell? ⟨wb.heap.size, 1, none⟩ = some (.slice none 0 0) := (hb.cell (p := ⟨wb.heap.size, 1, none⟩) hl_Q).trans k_Q_1
  replace k_Q_2 : wf.cell? ⟨wb.heap.size, 2, none⟩ = some (.slice none 0 0) := (hb.cell (p := ⟨wb.heap.size, 2, none⟩) hl_Q).trans k_Q_2
  replace f_Q : ∀ o, wf.frozen? ⟨wb.heap.size, o, none⟩ = false := fun o => (hb.frozen (p := ⟨wb.heap.size, o, none⟩) hl_Q).trans (f_Q o)
  replace HX_Q := Lib.hid (HX_Q.out.below hb)
  replace HU1 := Lib.hid (HU1.out.below hb)
  replace HU2 := Lib.hid (HU2.out.below hb)
  replace HB := Lib.hid (HB.out.trans (hb.mono hs0))
  replace hN : N ≤ wf.heap.size := Nat.le_trans hN hb.size
  replace hs0 : w.heap.size ≤ wf.heap.size := Nat.le_trans hs0 hb.size
  replace hl_P : wa.heap.size < wf.heap.size := Nat.lt_of_lt_of_le hl_P hb.size
  replace hl_Q : wb.heap.size < wf.heap.size := Nat.lt_of_lt_of_le hl_Q hb.size
  clear hb
  have HV1 := Lib.hid hn
  clear hn
  have HV2 := Lib.hid hn'
  clear hn'
  go_wp2_with fail
  refine region_name fun W7 hW => ?_
  have hs_W7 : wf.heap.size ≤ W7.heap.size := by rw [← hW]; (first | omega | (simp; done) | (simp; omega))
  have HK_W7 := Lib.hid (show Kp N wf W7 by rw [← hW]; exact KpA)
  replace k_P_0 : W7.cell? ⟨wa.heap.size, 0, none⟩ = some (.bool (decide ((p9).num < 0))) := by rw [← hW]; (first | with_reducible exact k_P_0 | (simp [go_sem, k_P_0]; done) | (simp [go_sem, k_P_0, hl_P]; done) | (go_simp; done) | (simp [go_sem, k_P_0, k_P_1, k_P_2, k_Q_0, k_Q_1, k_Q_2, f_P, f_Q, hl_P, hl_Q]; done))
  replace k_P_1 : W7.cell? ⟨wa.heap.size, 1, none⟩ = some (.slice ru (nlen (p9).num.natAbs) cu) := by rw [← hW]; (first | with_reducible exact k_P_1 | (simp [go_sem, k_P_1]; done) | (simp [go_sem, k_P_1, hl_P]; done) | (go_simp; done) | (simp [go_sem, k_P_0, k_P_1, k_P_2, k_Q_0, k_Q_1, k_Q_2, f_P, f_Q, hl_P, hl_Q]; done))
  replace k_P_2 : W7.cell? ⟨wa.heap.size, 2, none⟩ = some (.slice ru2 (nlen (p9).den) cu2) := by rw [← hW]; (first | with_reducible exact k_P_2 | (simp [go_sem, k_P_2]; done) | (simp [go_sem, k_P_2, hl_P]; done) | (go_simp; done) | (simp [go_sem, k_P_0, k_P_1, k_P_2, k_Q_0, k_Q_1, k_Q_2, f_P, f_Q, hl_P, hl_Q]; done))
  replace f_P : ∀ o, W7.frozen? ⟨wa.heap.size, o, none⟩ = false := by intro o; rw [← hW]; (first | with_reducible exact f_P o | (simp [go_sem, f_P]; done) | (simp [go_sem, f_P, hl_P]; done) | (go_simp; done) | (simp [go_sem, k_P_0, k_P_1, k_P_2, k_Q_0, k_Q_1, k_Q_2, f_P, f_Q, hl_P, hl_Q]; done))
  replace HX_P := Lib.hid (show Bn W7 (wa.heap.size) by rw [← hW]; exact KpA)
  replace k_Q_0 : W7.cell? ⟨wb.heap.size, 0, none⟩ = some (.bool (decide ((p9).num < 0))) := by rw [← hW]; (first | (go_simp; done) | (simp [go_sem, k_Q_0]; done) | (simp [go_sem, k_Q_0, k_Q_1, k_Q_2]; done) | (simp [go_sem, k_P_0, k_P_1, k_P_2, k_Q_0, k_Q_1, k_Q_2, f_P, f_Q, hl_P, hl_Q]; done))
  replace k_Q_1 : W7.cell? ⟨wb.heap.size, 1, none⟩ = some (.slice rv (nlen (p9).num.natAbs) cv) := by rw [← hW]; (first | (go_simp; done) | (simp [go_sem, k_Q_1]; done) | (simp [go_sem, k_Q_0, k_Q_1, k_Q_2]; done) | (simp [go_sem, k_P_0, k_P_1, k_P_2, k_Q_0, k_Q_1, k_Q_2, f_P, f_Q, hl_P, hl_Q]; done))
  replace k_Q_2 : W7.cell? ⟨wb.heap.size, 2, none⟩ = some (.slice rv2 (nlen (p9).den) cv2) := by rw [← hW]; (first | (go_simp; done) | (simp [go_sem, k_Q_2]; done) | (simp [go_sem, k_Q_0, k_Q_1, k_Q_2]; done) | (simp [go_sem, k_P_0, k_P_1, k_P_2, k_Q_0, k_Q_1, k_Q_2, f_P, f_Q, hl_P, hl_Q]; done))
  replace f_Q : ∀ o, W7.frozen? ⟨wb.heap.size, o, none⟩ = false := by intro o; rw [← hW]; (first | with_reducible exact f_Q o | (simp [go_sem, f_Q]; done) | (simp [go_sem, f_Q, hl_Q]; done) | (go_simp; done) | (simp [go_sem, k_P_0, k_P_1, k_P_2, k_Q_0, k_Q_1, k_Q_2, f_P, f_Q, hl_P, hl_Q]; done))
  replace HX_Q := Lib.hid (show Bn W7 (wb.heap.size) by rw [← hW]; exact KpA)
  replace HU1 := Lib.hid (HU1.out.keep HK_W7.out)
  replace HU2 := Lib.hid (HU2.out.keep HK_W7.out)
  replace HV1 := Lib.hid (HV1.out.keep HK_W7.out)
  replace HV2 := Lib.hid (HV2.out.keep HK_W7.out)
  replace HB := Lib.hid (show Below w.heap.size w W7 by rw [← hW]; exact BlA)
  replace hN : N ≤ W7.heap.size := by rw [← hW]; (first | omega | (simp; done) | (simp; omega))
  replace hs0 : w.heap.size ≤ W7.heap.size := by rw [← hW]; (first | omega | (simp; done) | (simp; omega))
  replace hl_P : wa.heap.size < W7.heap.size := by rw [← hW]; (first | omega | (simp; done) | (simp; omega))
  replace hl_Q : wb.heap.size < W7.heap.size := by rw [← hW]; (first | omega | (simp; done) | (simp; omega))
  clear hW HK_W7
  go_region_held3 (fun w' => w'.cell? ⟨wa.heap.size, 0, none⟩ = some (.bool (decide ((p9).num < 0))) ∧ w'.cell? ⟨wa.heap.size, 1, none⟩ = some (.slice ru (nlen (p9).num.natAbs) cu) ∧ w'.cell? ⟨wa.heap.size, 2, none⟩ = some (.slice ru2 (nlen (p9).den) cu2))
    (first | (go_keep; done) | ((try dsimp only); (repeat' apply And.intro) <;> (first | (go_keep; done) | (exact cell_keep_alloc_drew (by first | omega | (simp; omega)) (by first | assumption | go_simp)) | (exact cell_keep_alloc (by first | omega | (simp; omega)) (by first | assumption | go_simp)) | (rw [cell_set2 _ _ _ _ _ _ _ _ (by omega)]; assumption) | (rw [cell_set3 _ _ _ _ _ _ _ _ _ _ (by omega)]; assumption))))
    (first
      | (go_at_call 13; refine (rsign_any (N := N) _ _ _ _ _ _ _ 122 p9 _ (by exact hN) (by exact Rt.of_norm HU1.out HU2.out 122 HZy.out)).mono ?_; rw [HSGy.out]; rintro e way ⟨rfl, hb⟩; replace hb : Below W7.heap.size W7 way := (by first | exact hb | exact bel_of_drew hb); have hs_way : W7.heap.size ≤ way.heap.size := hb.size; replace k_P_0 : way.cell? ⟨wa.heap.size, 0, none⟩ = some (.bool (decide ((p9).num < 0))) := (hb.cell (p := ⟨wa.heap.size, 0, none⟩) hl_P).trans k_P_0; replace k_P_1 : way.cell? ⟨wa.heap.size, 1, none⟩ = some (.slice ru (nlen (p9).num.natAbs) cu) := (hb.cell (p := ⟨wa.heap.size, 1, none⟩) hl_P).trans k_P_1; replace k_P_2 : way.cell? ⟨wa.heap.size, 2, none⟩ = some (.slice ru2 (nlen (p9).den) cu2) := (hb.cell (p := ⟨wa.heap.size, 2, none⟩) hl_P).trans k_P_2; replace f_P : ∀ o, way.frozen? ⟨wa.heap.size, o, none⟩ = false := fun o => (hb.frozen (p := ⟨wa.heap.size, o, none⟩) hl_P).trans (f_P o); replace HX_P := Lib.hid (HX_P.out.below hb); replace k_Q_0 : way.cell? ⟨wb.heap.size, 0, none⟩ = some (.bool (decide ((p9).num < 0))) := (hb.cell (p := ⟨wb.heap.size, 0, none⟩) hl_Q).trans k_Q_0; replace k_Q_1 : way.cell? ⟨wb.heap.size, 1, none⟩ = some (.slice rv (nlen (p9).num.natAbs) cv) := (hb.cell (p := ⟨wb.heap.size, 1, none⟩) hl_Q).trans k_Q_1; replace k_Q_2 : way.cell? ⟨wb.heap.size, 2, none⟩ = some (.slice rv2 (nlen (p9).den) cv2) := (hb.cell (p := ⟨wb.heap.size, 2, none⟩) hl_Q).trans k_Q_2; replace f_Q : ∀ o, way.frozen? ⟨wb.heap.size, o, none⟩ = false := fun o => (hb.frozen (p := ⟨wb.heap.size, o, none⟩) hl_Q).trans (f_Q o); replace HX_Q := Lib.hid (HX_Q.out.below hb); replace HU1 := Lib.hid (HU1.out.below hb); replace HU2 := Lib.hid (HU2.out.below hb); replace HV1 := Lib.hid (HV1.out.below hb); replace HV2 := Lib.hid (HV2.out.below hb); replace HB := Lib.hid (HB.out.trans (hb.mono hs0)); replace hN : N ≤ way.heap.size := Nat.le_trans hN hb.size; replace hs0 : w.heap.size ≤ way.heap.size := Nat.le_trans hs0 hb.size; replace hl_P : wa.heap.size < way.heap.size := Nat.lt_of_lt_of_le hl_P hb.size; replace hl_Q : wb.heap.size < way.heap.size := Nat.lt_of_lt_of_le hl_Q hb.size; clear hb; skip)
      | (go_at_call 20; refine (dpart_any (N := N) 1 1 _ (by exact hN) (by decide) (by decide) _ rfl).mono ?_; rintro e wby ⟨ray, day, rfl, hn, hb⟩; replace hb : Below way.heap.size way wby := (by first | exact hb | exact bel_of_drew hb); have hs_wby : way.heap.size ≤ wby.heap.size := hb.size; replace k_P_0 : wby.cell? ⟨wa.heap.size, 0, none⟩ = some (.bool (decide ((p9).num < 0))) := (hb.cell (p := ⟨wa.heap.size, 0, none⟩) hl_P).trans k_P_0; replace k_P_1 : wby.cell? ⟨wa.heap.size, 1, none⟩ = some (.slice ru (nlen (p9).num.natAbs) cu) := (hb.cell (p := ⟨wa.heap.size, 1, none⟩) hl_P).trans k_P_1; replace k_P_2 : wby.cell? ⟨wa.heap.size, 2, none⟩ = some (.slice ru2 (nlen (p9).den) cu2) := (hb.cell (p := ⟨wa.heap.size, 2, none⟩) hl_P).trans k_P_2; replace f_P : ∀ o, wby.frozen? ⟨wa.heap.size, o, none⟩ = false := fun o => (hb.frozen (p := ⟨wa.heap.size, o, none⟩) hl_P).trans (f_P o); replace HX_P := Lib.hid (HX_P.out.below hb); replace k_Q_0 : wby.cell? ⟨wb.heap.size, 0, none⟩ = some (.bool (decide ((p9).num < 0))) := (hb.cell (p := ⟨wb.heap.size, 0, none⟩) hl_Q).trans k_Q_0; replace k_Q_1 : wby.cell? ⟨wb.heap.size, 1, none⟩ = some (.slice rv (nlen (p9).num.natAbs) cv) := (hb.cell (p := ⟨wb.heap.size, 1, none⟩) hl_Q).trans k_Q_1; replace k_Q_2 : wby.cell? ⟨wb.heap.size, 2, none⟩ = some (.slice rv2 (nlen (p9).den) cv2) := (hb.cell (p := ⟨wb.heap.size, 2, none⟩) hl_Q).trans k_Q_2; replace f_Q : ∀ o, wby.frozen? ⟨wb.heap.size, o, none⟩ = false := fun o => (hb.frozen (p := ⟨wb.heap.size, o, none⟩) hl_Q).trans (f_Q o); replace HX_Q := Lib.hid (HX_Q.out.below hb); replace HU1 := Lib.hid (HU1.out.below hb); replace HU2 := Lib.hid (HU2.out.below hb); replace HV1 := Lib.hid (HV1.out.below hb); replace HV2 := Lib.hid (HV2.out.below hb); replace HB := Lib.hid (HB.out.trans (hb.mono hs0)); replace hN : N ≤ wby.heap.size := Nat.le_trans hN hb.size; replace hs0 : w.heap.size ≤ wby.heap.size := Nat.le_trans hs0 hb.size; replace hl_P : wa.heap.size < wby.heap.size := Nat.lt_of_lt_of_le hl_P hb.size; replace hl_Q : wb.heap.size < wby.heap.size := Nat.lt_of_lt_of_le hl_Q hb.size; clear hb; have HQO := Lib.hid hn; clear hn; skip)
      | (go_at_call 12; refine (rcmp_any (N := N) _ _ _ _ _ _ _ _ _ _ _ _ _ _ 122 1 p9 (frq 1 1) _ (by exact hN) (by exact Rt.of_norm HU1.out HU2.out 122 HZy.out) (by exact HQO.out) (by omega) (by omega)).mono ?_; rw [HKy.out]; rintro e wcy ⟨rfl, hb⟩; replace hb : Below wby.heap.size wby wcy := (by first | exact hb | exact bel_of_drew hb); have hs_wcy : wby.heap.size ≤ wcy.heap.size := hb.size; replace k_P_0 : wcy.cell? ⟨wa.heap.size, 0, none⟩ = some (.bool (decide ((p9).num < 0))) := (hb.cell (p := ⟨wa.heap.size, 0, none⟩) hl_P).trans k_P_0; replace k_P_1 : wcy.cell? ⟨wa.heap.size, 1, none⟩ = some (.slice ru (nlen (p9).num.natAbs) cu) := (hb.cell (p := ⟨wa.heap.size, 1, none⟩) hl_P).trans k_P_1; replace k_P_2 : wcy.cell? ⟨wa.heap.size, 2, none⟩ = some (.slice ru2 (nlen (p9).den) cu2) := (hb.cell (p := ⟨wa.heap.size, 2, none⟩) hl_P).trans k_P_2; replace f_P : ∀ o, wcy.frozen? ⟨wa.heap.size, o, none⟩ = false := fun o => (hb.frozen (p := ⟨wa.heap.size, o, none⟩) hl_P).trans (f_P o); replace HX_P := Lib.hid (HX_P.out.below hb); replace k_Q_0 : wcy.cell? ⟨wb.heap.size, 0, none⟩ = some (.bool (decide ((p9).num < 0))) := (hb.cell (p := ⟨wb.heap.size, 0, none⟩) hl_Q).trans k_Q_0; replace k_Q_1 : wcy.cell? ⟨wb.heap.size, 1, none⟩ = some (.slice rv (nlen (p9).num.natAbs) cv) := (hb.cell (p := ⟨wb.heap.size, 1, none⟩) hl_Q).trans k_Q_1; replace k_Q_2 : wcy.cell? ⟨wb.heap.size, 2, none⟩ = some (.slice rv2 (nlen (p9).den) cv2) := (hb.cell (p := ⟨wb.heap.size, 2, none⟩) hl_Q).trans k_Q_2; replace f_Q : ∀ o, wcy.frozen? ⟨wb.heap.size, o, none⟩ = false := fun o => (hb.frozen (p := ⟨wb.heap.size, o, none⟩) hl_Q).trans (f_Q o); replace HX_Q := Lib.hid (HX_Q.out.below hb); replace HU1 := Lib.hid (HU1.out.below hb); replace HU2 := Lib.hid (HU2.out.below hb); replace HV1 := Lib.hid (HV1.out.below hb); replace HV2 := Lib.hid (HV2.out.below hb); replace HQO := Lib.hid (HQO.out.below hb); replace HB := Lib.hid (HB.out.trans (hb.mono hs0)); replace hN : N ≤ wcy.heap.size := Nat.le_trans hN hb.size; replace hs0 : w.heap.size ≤ wcy.heap.size := Nat.le_trans hs0 hb.size; replace hl_P : wa.heap.size < wcy.heap.size := Nat.lt_of_lt_of_le hl_P hb.size; replace hl_Q : wb.heap.size < wcy.heap.size := Nat.lt_of_lt_of_le hl_Q hb.size; clear hb; skip))
  clear HQO
  go_wp2_with fail
  refine calls_name fun W8 hW => ?_
  have HL_W8 := Lib.hid (show Below wcy.heap.size wcy W8 by rw [← hW]; exact BlA)
  have hs_W8 : wcy.heap.size ≤ W8.heap.size := by rw [← hW]; (first | omega | (simp; done) | (simp; omega))
  have HK_W8 := Lib.hid (show Kp N wcy W8 by rw [← hW]; exact KpA)
  replace k_P_0 : W8.cell? ⟨wa.heap.size, 0, none⟩ = some (.bool (decide ((p9).num < 0))) := (HL_W8.out.cell (p := ⟨wa.heap.size, 0, none⟩) hl_P).trans k_P_0
  replace k_P_1 : W8.cell? ⟨wa.heap.size, 1, none⟩ = some (.slice ru (nlen (p9).num.natAbs) cu) := (HL_W8.out.cell (p := ⟨wa.heap.size, 1, none⟩) hl_P).trans k_P_1
  replace k_P_2 : W8.cell? ⟨wa.heap.size, 2, none⟩ = some (.slice ru2 (nlen (p9).den) cu2) := (HL_W8.out.cell (p := ⟨wa.heap.size, 2, none⟩) hl_P).trans k_P_2
  replace f_P : ∀ o, W8.frozen? ⟨wa.heap.size, o, none⟩ = false := fun o => (HL_W8.out.frozen (p := ⟨wa.heap.size, o, none⟩) hl_P).trans (f_P o)
  replace HX_P := Lib.hid (show Bn W8 (wa.heap.size) by rw [← hW]; exact KpA)
  replace k_Q_0 : W8.cell? ⟨wb.heap.size, 0, none⟩ = some (.bool (decide ((p9).num < 0))) := (HL_W8.out.cell (p := ⟨wb.heap.size, 0, none⟩) hl_Q).trans k_Q_0
  replace k_Q_1 : W8.cell? ⟨wb.heap.size, 1, none⟩ = some (.slice rv (nlen (p9).num.natAbs) cv) := (HL_W8.out.cell (p := ⟨wb.heap.size, 1, none⟩) hl_Q).trans k_Q_1
  replace k_Q_2 : W8.cell? ⟨wb.heap.size, 2, none⟩ = some (.slice rv2 (nlen (p9).den) cv2) := (HL_W8.out.cell (p := ⟨wb.heap.size, 2, none⟩) hl_Q).trans k_Q_2
  replace f_Q : ∀ o, W8.frozen? ⟨wb.heap.size, o, none⟩ = false := fun o => (HL_W8.out.frozen (p := ⟨wb.heap.size, o, none⟩) hl_Q).trans (f_Q o)
  replace HX_Q := Lib.hid (show Bn W8 (wb.heap.size) by rw [← hW]; exact KpA)
  replace HU1 := Lib.hid (HU1.out.keep HK_W8.out)
  replace HU2 := Lib.hid (HU2.out.keep HK_W8.out)
  replace HV1 := Lib.hid (HV1.out.keep HK_W8.out)
  replace HV2 := Lib.hid (HV2.out.keep HK_W8.out)
  replace HB := Lib.hid (show Below w.heap.size w W8 by rw [← hW]; exact BlA)
  replace hN : N ≤ W8.heap.size := by rw [← hW]; (first | omega | (simp; done) | (simp; omega))
  replace hs0 : w.heap.size ≤ W8.heap.size := by rw [← hW]; (first | omega | (simp; done) | (simp; omega))
  replace hl_P : wa.heap.size < W8.heap.size := by rw [← hW]; (first | omega | (simp; done) | (simp; omega))
  replace hl_Q : wb.heap.size < W8.heap.size := by rw [← hW]; (first | omega | (simp; done) | (simp; omega))
  clear HL_W8
  clear hW HK_W8
  refine (SameRatio_any (N := N) _ _ _ _ _ _ _ _ _ _ _ _ _ _ hN HU1.out HV1.out HU2.out HV2.out).mono ?_
  rintro e wg ⟨rfl, hb⟩
  have hs_wg : W8.heap.size ≤ wg.heap.size := hb.size
  replace k_P_0 : wg.cell? ⟨wa.heap.size, 0, none⟩ = some (.bool (decide ((p9).num < 0))) := (hb.cell (p := ⟨wa.heap.size, 0, none⟩) hl_P).trans k_P_0
  replace k_P_1 : wg.cell? ⟨wa.heap.size, 1, none⟩ = some (.slice ru (nlen (p9).num.natAbs) cu) := (hb.cell (p := ⟨wa.heap.size, 1, none⟩) hl_P).trans k_P_1
  replace k_P_2 : wg.cell? ⟨wa.heap.size, 2, none⟩ = some (.slice ru2 (nlen (p9).den) cu2) := (hb.cell (p := ⟨wa.heap.size, 2, none⟩) hl_P).trans k_P_2
  replace f_P : ∀ o, wg.frozen? ⟨wa.heap.size, o, none⟩ = false := fun o => (hb.frozen (p := ⟨wa.heap.size, o, none⟩) hl_P).trans (f_P o)
  replace HX_P := Lib.hid (HX_P.out.below hb)
  replace k_Q_0 : wg.cell? ⟨wb.heap.size, 0, none⟩ = some (.bool (decide ((p9).num < 0))) := (hb.cell (p := ⟨wb.heap.size, 0, none⟩) hl_Q).trans k_Q_0
  replace k_Q_1 : wg.cell? ⟨wb.heap.size, 1, none⟩ = some (.slice rv (nlen (p9).num.natAbs) cv) := (hb.cell (p := ⟨wb.heap.size, 1, none⟩) hl_Q).trans k_Q_1
  replace k_Q_2 : wg.cell? ⟨wb.heap.size, 2, none⟩ = some (.slice rv2 (nlen (p9).den) cv2) := (hb.cell (p := ⟨wb.heap.size, 2, none⟩) hl_Q).trans k_Q_2
  replace f_Q : ∀ o, wg.frozen? ⟨wb.heap.size, o, none⟩ = false := fun o => (hb.frozen (p := ⟨wb.heap.size, o, none⟩) hl_Q).trans (f_Q o)
  replace HX_Q := Lib.hid (HX_Q.out.below hb)
  replace HU1 := Lib.hid (HU1.out.below hb)
  replace HU2 := Lib.hid (HU2.out.below hb)
  replace HV1 := Lib.hid (HV1.out.below hb)
  replace HV2 := Lib.hid (HV2.out.below hb)
  replace HB := Lib.hid (HB.out.trans (hb.mono hs0))
  replace hN : N ≤ wg.heap.size := Nat.le_trans hN hb.size
  replace hs0 : w.heap.size ≤ wg.heap.size := Nat.le_trans hs0 hb.size
  replace hl_P : wa.heap.size < wg.heap.size := Nat.lt_of_lt_of_le hl_P hb.size
  replace hl_Q : wb.heap.size < wg.heap.size := Nat.lt_of_lt_of_le hl_Q hb.size
  clear hb
  go_wp2_with fail
  refine calls_name fun W9 hW => ?_
  have HL_W9 := Lib.hid (show Below wg.heap.size wg W9 by rw [← hW]; exact BlA)
  have hs_W9 : wg.heap.size ≤ W9.heap.size := by rw [← hW]; (first | omega | (simp; done) | (simp; omega))
  have HK_W9 := Lib.hid (show Kp N wg W9 by rw [← hW]; exact KpA)
  replace k_P_0 : W9.cell? ⟨wa.heap.size, 0, none⟩ = some (.bool (decide ((p9).num < 0))) := (HL_W9.out.cell (p := ⟨wa.heap.size, 0, none⟩) hl_P).trans k_P_0
  replace k_P_1 : W9.cell? ⟨wa.heap.size, 1, none⟩ = some (.slice ru (nlen (p9).num.natAbs) cu) := (HL_W9.out.cell (p := ⟨wa.heap.size, 1, none⟩) hl_P).trans k_P_1
  replace k_P_2 : W9.cell? ⟨wa.heap.size, 2, none⟩ = some (.slice ru2 (nlen (p9).den) cu2) := (HL_W9.out.cell (p := ⟨wa.heap.size, 2, none⟩) hl_P).trans k_P_2
  replace f_P : ∀ o, W9.frozen? ⟨wa.heap.size, o, none⟩ = false := fun o => (HL_W9.out.frozen (p := ⟨wa.heap.size, o, none⟩) hl_P).trans (f_P o)
  replace HX_P := Lib.hid (show Bn W9 (wa.heap.size) by rw [← hW]; exact KpA)
  replace k_Q_0 : W9.cell? ⟨wb.heap.size, 0, none⟩ = some (.bool (decide ((p9).num < 0))) := (HL_W9.out.cell (p := ⟨wb.heap.size, 0, none⟩) hl_Q).trans k_Q_0
  replace k_Q_1 : W9.cell? ⟨wb.heap.size, 1, none⟩ = some (.slice rv (nlen (p9).num.natAbs) cv) := (HL_W9.out.cell (p := ⟨wb.heap.size, 1, none⟩) hl_Q).trans k_Q_1
  replace k_Q_2 : W9.cell? ⟨wb.heap.size, 2, none⟩ = some (.slice rv2 (nlen (p9).den) cv2) := (HL_W9.out.cell (p := ⟨wb.heap.size, 2, none⟩) hl_Q).trans k_Q_2
  replace f_Q : ∀ o, W9.frozen? ⟨wb.heap.size, o, none⟩ = false := fun o => (HL_W9.out.frozen (p := ⟨wb.heap.size, o, none⟩) hl_Q).trans (f_Q o)
  replace HX_Q := Lib.hid (show Bn W9 (wb.heap.size) by rw [← hW]; exact KpA)
  replace HU1 := Lib.hid (HU1.out.keep HK_W9.out)
  replace HU2 := Lib.hid (HU2.out.keep HK_W9.out)
  replace HV1 := Lib.hid (HV1.out.keep HK_W9.out)
  replace HV2 := Lib.hid (HV2.out.keep HK_W9.out)
  replace HB := Lib.hid (show Below w.heap.size w W9 by rw [← hW]; exact BlA)
  replace hN : N ≤ W9.heap.size := by rw [← hW]; (first | omega | (simp; done) | (simp; omega))
  replace hs0 : w.heap.size ≤ W9.heap.size := by rw [← hW]; (first | omega | (simp; done) | (simp; omega))
  replace hl_P : wa.heap.size < W9.heap.size := by rw [← hW]; (first | omega | (simp; done) | (simp; omega))
  replace hl_Q : wb.heap.size < W9.heap.size := by rw [← hW]; (first | omega | (simp; done) | (simp; omega))
  clear HL_W9
  clear hW HK_W9
  refine (dawake_any (N := N) _ hN (HTw.out.below HB.out)).mono ?_
  rintro e wh ⟨rfl, hb⟩
  have hs_wh : W9.heap.size ≤ wh.heap.size := hb.size
  replace k_P_0 : wh.cell? ⟨wa.heap.size, 0, none⟩ = some (.bool (decide ((p9).num < 0))) := (hb.cell (p := ⟨wa.heap.size, 0, none⟩) hl_P).trans k_P_0
  replace k_P_1 : wh.cell? ⟨wa.heap.size, 1, none⟩ = some (.slice ru (nlen (p9).num.natAbs) cu) := (hb.cell (p := ⟨wa.heap.size, 1, none⟩) hl_P).trans k_P_1
  replace k_P_2 : wh.cell? ⟨wa.heap.size, 2, none⟩ = some (.slice ru2 (nlen (p9).den) cu2) := (hb.cell (p := ⟨wa.heap.size, 2, none⟩) hl_P).trans k_P_2
  replace f_P : ∀ o, wh.frozen? ⟨wa.heap.size, o, none⟩ = false := fun o => (hb.frozen (p := ⟨wa.heap.size, o, none⟩) hl_P).trans (f_P o)
  replace HX_P := Lib.hid (HX_P.out.below hb)
  replace k_Q_0 : wh.cell? ⟨wb.heap.size, 0, none⟩ = some (.bool (decide ((p9).num < 0))) := (hb.cell (p := ⟨wb.heap.size, 0, none⟩) hl_Q).trans k_Q_0
  replace k_Q_1 : wh.cell? ⟨wb.heap.size, 1, none⟩ = some (.slice rv (nlen (p9).num.natAbs) cv) := (hb.cell (p := ⟨wb.heap.size, 1, none⟩) hl_Q).trans k_Q_1
  replace k_Q_2 : wh.cell? ⟨wb.heap.size, 2, none⟩ = some (.slice rv2 (nlen (p9).den) cv2) := (hb.cell (p := ⟨wb.heap.size, 2, none⟩) hl_Q).trans k_Q_2
  replace f_Q : ∀ o, wh.frozen? ⟨wb.heap.size, o, none⟩ = false := fun o => (hb.frozen (p := ⟨wb.heap.size, o, none⟩) hl_Q).trans (f_Q o)
  replace HX_Q := Lib.hid (HX_Q.out.below hb)
  replace HU1 := Lib.hid (HU1.out.below hb)
  replace HU2 := Lib.hid (HU2.out.below hb)
  replace HV1 := Lib.hid (HV1.out.below hb)
  replace HV2 := Lib.hid (HV2.out.below hb)
  replace HB := Lib.hid (HB.out.trans (hb.mono hs0))
  replace hN : N ≤ wh.heap.size := Nat.le_trans hN hb.size
  replace hs0 : w.heap.size ≤ wh.heap.size := Nat.le_trans hs0 hb.size
  replace hl_P : wa.heap.size < wh.heap.size := Nat.lt_of_lt_of_le hl_P hb.size
  replace hl_Q : wb.heap.size < wh.heap.size := Nat.lt_of_lt_of_le hl_Q hb.size
  clear hb
  go_wp2_with fail
  go_ret
  exact ⟨rfl, HB.out⟩

set_option maxHeartbeats 8000000 in
set_option maxRecDepth 100000 in
theorem dsym_nn {N : Nat} (a b c d : Int) (hv : vldT a b c d = false) (x y : Int) (hbad : x < 0 ∨ 60 < x ∨ y < 0 ∨ 60 < y) (w : World) (hN : N ≤ w.heap.size) (htab : TabW w) :
    Calls Tryd.prog 5 #[.agg #[.int .i64 a, .int .i64 b, .int .i64 c, .int .i64 d], .int .i64 x, .int .i64 y] w fun e w' => e = .returned (.bool true) ∧ Below w.heap.size w w' := by
  have HV := Lib.hid hv
  have HVg := Lib.hid (show vldT c d a b = false by cases e : vldT c d a b; (· rfl); (· have := vldT_iff.1 e; rw [vldT_iff.2 ⟨this.2.2.1, this.2.2.2, this.1, this.2.1⟩] at hv; cases hv))
  have HVs := Lib.hid (show vldT b a d c = false by cases e : vldT b a d c; (· rfl); (· have := vldT_iff.1 e; rw [vldT_iff.2 ⟨this.2.1, this.1, this.2.2.2, this.2.2.1⟩] at hv; cases hv))
  clear hv
  have HTw := Lib.hid htab
  clear htab
  have hN0 := hN
  have HB := Lib.hid (Below.refl w.heap.size w)
  go_enter Tryd.func5, Tryd.ntmps5
  go_wp2_with fail
  refine calls_name fun W0 hW => ?_
  have hs_W0 : w.heap.size ≤ W0.heap.size := by rw [← hW]; (first | omega | (simp; done) | (simp; omega))
  have k_T_0 : W0.cell? ⟨w.heap.size, 0, none⟩ = some (.int .i64 a) := by rw [← hW]; (first | (go_simp; done) | (simp; done) | (simp [go_sem]; done) | (simp [go_sem]; done))
  have k_T_1 : W0.cell? ⟨w.heap.size, 1, none⟩ = some (.int .i64 b) := by rw [← hW]; (first | (go_simp; done) | (simp; done) | (simp [go_sem]; done) | (simp [go_sem]; done))
  have k_T_2 : W0.cell? ⟨w.heap.size, 2, none⟩ = some (.int .i64 c) := by rw [← hW]; (first | (go_simp; done) | (simp; done) | (simp [go_sem]; done) | (simp [go_sem]; done))
  have k_T_3 : W0.cell? ⟨w.heap.size, 3, none⟩ = some (.int .i64 d) := by rw [← hW]; (first | (go_simp; done) | (simp; done) | (simp [go_sem]; done) | (simp [go_sem]; done))
  have f_T : ∀ o, W0.frozen? ⟨w.heap.size, o, none⟩ = false := by intro o; rw [← hW]; (first | (go_simp; done) | (simp; done) | (simp [go_sem]; done) | (simp [go_sem]; done))
  have HX_T := Lib.hid (show Bn W0 (w.heap.size) by rw [← hW]; exact KpA)
  replace HB := Lib.hid (show Below w.heap.size w W0 by rw [← hW]; exact BlA)
  replace hN : N ≤ W0.heap.size := by rw [← hW]; (first | omega | (simp; done) | (simp; omega))
  have hs0 : w.heap.size ≤ W0.heap.size := by rw [← hW]; (first | omega | (simp; done) | (simp; omega))
  have hl_T : w.heap.size < W0.heap.size := by rw [← hW]; (first | omega | (simp; done) | (simp; omega))
  clear hW
  refine (fisher_bad (N := N) a b c d _ hN HV.out).mono ?_
  rintro e wa ⟨rfl, hb⟩
  have hs_wa : W0.heap.size ≤ wa.heap.size := hb.size
  replace k_T_0 : wa.cell? ⟨w.heap.size, 0, none⟩ = some (.int .i64 a) := (hb.cell (p := ⟨w.heap.size, 0, none⟩) hl_T).trans k_T_0
  replace k_T_1 : wa.cell? ⟨w.heap.size, 1, none⟩ = some (.int .i64 b) := (hb.cell (p := ⟨w.heap.size, 1, none⟩) hl_T).trans k_T_1
  replace k_T_2 : wa.cell? ⟨w.heap.size, 2, none⟩ = some (.int .i64 c) := (hb.cell (p := ⟨w.heap.size, 2, none⟩) hl_T).trans k_T_2
  replace k_T_3 : wa.cell? ⟨w.heap.size, 3, none⟩ = some (.int .i64 d) := (hb.cell (p := ⟨w.heap.size, 3, none⟩) hl_T).trans k_T_3
  replace f_T : ∀ o, wa.frozen? ⟨w.heap.size, o, none⟩ = false := fun o => (hb.frozen (p := ⟨w.heap.size, o, none⟩) hl_T).trans (f_T o)
  replace HX_T := Lib.hid (HX_T.out.below hb)
  replace HB := Lib.hid (HB.out.trans (hb.mono hs0))
  replace hN : N ≤ wa.heap.size := Nat.le_trans hN hb.size
  replace hs0 : w.heap.size ≤ wa.heap.size := Nat.le_trans hs0 hb.size
  replace hl_T : w.heap.size < wa.heap.size := Nat.lt_of_lt_of_le hl_T hb.size
  clear hb
  go_wp2_with fail
  refine calls_name fun W1 hW => ?_
  have HL_W1 := Lib.hid (show Below wa.heap.size wa W1 by rw [← hW]; exact BlA)
  have hs_W1 : wa.heap.size ≤ W1.heap.size := by rw [← hW]; (first | omega | (simp; done) | (simp; omega))
  have hd_T_P : w.heap.size < wa.heap.size := by omega
  replace k_T_0 : W1.cell? ⟨w.heap.size, 0, none⟩ = some (.int .i64 a) := (HL_W1.out.cell (p := ⟨w.heap.size, 0, none⟩) hl_T).trans k_T_0
  replace k_T_1 : W1.cell? ⟨w.heap.size, 1, none⟩ = some (.int .i64 b) := (HL_W1.out.cell (p := ⟨w.heap.size, 1, none⟩) hl_T).trans k_T_1
  replace k_T_2 : W1.cell? ⟨w.heap.size, 2, none⟩ = some (.int .i64 c) := (HL_W1.out.cell (p := ⟨w.heap.size, 2, none⟩) hl_T).trans k_T_2
  replace k_T_3 : W1.cell? ⟨w.heap.size, 3, none⟩ = some (.int .i64 d) := (HL_W1.out.cell (p := ⟨w.heap.size, 3, none⟩) hl_T).trans k_T_3
  replace f_T : ∀ o, W1.frozen? ⟨w.heap.size, o, none⟩ = false := fun o => (HL_W1.out.frozen (p := ⟨w.heap.size, o, none⟩) hl_T).trans (f_T o)
  replace HX_T := Lib.hid (show Bn W1 (w.heap.size) by rw [← hW]; exact KpA)
  have k_P_0 : W1.cell? ⟨wa.heap.size, 0, none⟩ = some (.bool false) := by rw [← hW]; (first | (go_simp; done) | (simp; done) | (simp [go_sem]; done) | (simp [go_sem, k_T_0, k_T_1, k_T_2, k_T_3, f_T, hl_T]; done))
  have k_P_1 : W1.cell? ⟨wa.heap.size, 1, none⟩ = some (.slice none 0 0) := by rw [← hW]; (first | (go_simp; done) | (simp; done) | (simp [go_sem]; done) | (simp [go_sem, k_T_0, k_T_1, k_T_2, k_T_3, f_T, hl_T]; done))
  have k_P_2 : W1.cell? ⟨wa.heap.size, 2, none⟩ = some (.slice none 0 0) := by rw [← hW]; (first | (go_simp; done) | (simp; done) | (simp [go_sem]; done) | (simp [go_sem, k_T_0, k_T_1, k_T_2, k_T_3, f_T, hl_T]; done))
  have f_P : ∀ o, W1.frozen? ⟨wa.heap.size, o, none⟩ = false := by intro o; rw [← hW]; (first | (go_simp; done) | (simp; done) | (simp [go_sem]; done) | (simp [go_sem, k_T_0, k_T_1, k_T_2, k_T_3, f_T, hl_T]; done))
  have HX_P := Lib.hid (show Bn W1 (wa.heap.size) by rw [← hW]; exact KpA)
  replace HB := Lib.hid (show Below w.heap.size w W1 by rw [← hW]; exact BlA)
  replace hN : N ≤ W1.heap.size := by rw [← hW]; (first | omega | (simp; done) | (simp; omega))
  replace hs0 : w.heap.size ≤ W1.heap.size := by rw [← hW]; (first | omega | (simp; done) | (simp; omega))
  replace hl_T : w.heap.size < W1.heap.size := by rw [← hW]; (first | omega | (simp; done) | (simp; omega))
  have hl_P : wa.heap.size < W1.heap.size := by rw [← hW]; (first | omega | (simp; done) | (simp; omega))
  clear HL_W1
  clear hW
  refine (fisher_bad (N := N) c d a b _ hN HVg.out).mono ?_
  rintro e wb ⟨rfl, hb⟩
  have hs_wb : W1.heap.size ≤ wb.heap.size := hb.size
  replace k_T_0 : wb.cell? ⟨w.heap.size, 0, none⟩ = some (.int .i64 a) := (hb.cell (p := ⟨w.heap.size, 0, none⟩) hl_T).trans k_T_0
  replace k_T_1 : wb.cell? ⟨w.heap.size, 1, none⟩ = some (.int .i64 b) := (hb.cell (p := ⟨w.heap.size, 1, none⟩) hl_T).trans k_T_1
  replace k_T_2 : wb.cell? ⟨w.heap.size, 2, none⟩ = some (.int .i64 c) := (hb.cell (p := ⟨w.heap.size, 2, none⟩) hl_T).trans k_T_2
  replace k_T_3 : wb.cell? ⟨w.heap.size, 3, none⟩ = some (.int .i64 d) := (hb.cell (p := ⟨w.heap.size, 3, none⟩) hl_T).trans k_T_3
  replace f_T : ∀ o, wb.frozen? ⟨w.heap.size, o, none⟩ = false := fun o => (hb.frozen (p := ⟨w.heap.size, o, none⟩) hl_T).trans (f_T o)
  replace HX_T := Lib.hid (HX_T.out.below hb)
  replace k_P_0 : wb.cell? ⟨wa.heap.size, 0, none⟩ = some (.bool false) := (hb.cell (p := ⟨wa.heap.size, 0, none⟩) hl_P).trans k_P_0
  replace k_P_1 : wb.cell? ⟨wa.heap.size, 1, none⟩ = some (.slice none 0 0) := (hb.cell (p := ⟨wa.heap.size, 1, none⟩) hl_P).trans k_P_1
  replace k_P_2 : wb.cell? ⟨wa.heap.size, 2, none⟩ = some (.slice none 0 0) := (hb.cell (p := ⟨wa.heap.size, 2, none⟩) hl_P).trans k_P_2
  replace f_P : ∀ o, wb.frozen? ⟨wa.heap.size, o, none⟩ = false := fun o => (hb.frozen (p := ⟨wa.heap.size, o, none⟩) hl_P).trans (f_P o)
  replace HX_P := Lib.hid (HX_P.out.below hb)
  replace HB := Lib.hid (HB.out.trans (hb.mono hs0))
  replace hN : N ≤ wb.heap.size := Nat.le_trans hN hb.size
  replace hs0 : w.heap.size ≤ wb.heap.size := Nat.le_trans hs0 hb.size
  replace hl_T : w.heap.size < wb.heap.size := Nat.lt_of_lt_of_le hl_T hb.size
  replace hl_P : wa.heap.size < wb.heap.size := Nat.lt_of_lt_of_le hl_P hb.size
  clear hb
  go_wp2_with fail
  refine calls_name fun W2 hW => ?_
  have HL_W2 := Lib.hid (show Below wb.heap.size wb W2 by rw [← hW]; exact BlA)
  have hs_W2 : wb.heap.size ≤ W2.heap.size := by rw [← hW]; (first | omega | (simp; done) | (simp; omega))
  have hd_T_Q : w.heap.size < wb.heap.size := by omega
  have hd_P_Q : wa.heap.size < wb.heap.size := by omega
  replace k_T_0 : W2.cell? ⟨w.heap.size, 0, none⟩ = some (.int .i64 a) := (HL_W2.out.cell (p := ⟨w.heap.size, 0, none⟩) hl_T).trans k_T_0
  replace k_T_1 : W2.cell? ⟨w.heap.size, 1, none⟩ = some (.int .i64 b) := (HL_W2.out.cell (p := ⟨w.heap.size, 1, none⟩) hl_T).trans k_T_1
  replace k_T_2 : W2.cell? ⟨w.heap.size, 2, none⟩ = some (.int .i64 c) := (HL_W2.out.cell (p := ⟨w.heap.size, 2, none⟩) hl_T).trans k_T_2
  replace k_T_3 : W2.cell? ⟨w.heap.size, 3, none⟩ = some (.int .i64 d) := (HL_W2.out.cell (p := ⟨w.heap.size, 3, none⟩) hl_T).trans k_T_3
  replace f_T : ∀ o, W2.frozen? ⟨w.heap.size, o, none⟩ = false := fun o => (HL_W2.out.frozen (p := ⟨w.heap.size, o, none⟩) hl_T).trans (f_T o)
  replace HX_T := Lib.hid (show Bn W2 (w.heap.size) by rw [← hW]; exact KpA)
  replace k_P_0 : W2.cell? ⟨wa.heap.size, 0, none⟩ = some (.bool false) := (HL_W2.out.cell (p := ⟨wa.heap.size, 0, none⟩) hl_P).trans k_P_0
  replace k_P_1 : W2.cell? ⟨wa.heap.size, 1, none⟩ = some (.slice none 0 0) := (HL_W2.out.cell (p := ⟨wa.heap.size, 1, none⟩) hl_P).trans k_P_1
  replace k_P_2 : W2.cell? ⟨wa.heap.size, 2, none⟩ = some (.slice none 0 0) := (HL_W2.out.cell (p := ⟨wa.heap.size, 2, none⟩) hl_P).trans k_P_2
  replace f_P : ∀ o, W2.frozen? ⟨wa.heap.size, o, none⟩ = false := fun o => (HL_W2.out.frozen (p := ⟨wa.heap.size, o, none⟩) hl_P).trans (f_P o)
  replace HX_P := Lib.hid (show Bn W2 (wa.heap.size) by rw [← hW]; exact KpA)
  have k_Q_0 : W2.cell? ⟨wb.heap.size, 0, none⟩ = some (.bool false) := by rw [← hW]; (first | (go_simp; done) | (simp; done) | (simp [go_sem]; done) | (simp [go_sem, k_T_0, k_T_1, k_T_2, k_T_3, k_P_0, k_P_1, k_P_2, f_T, f_P, hl_T, hl_P]; done))
  have k_Q_1 : W2.cell? ⟨wb.heap.size, 1, none⟩ = some (.slice none 0 0) := by rw [← hW]; (first | (go_simp; done) | (simp; done) | (simp [go_sem]; done) | (simp [go_sem, k_T_0, k_T_1, k_T_2, k_T_3, k_P_0, k_P_1, k_P_2, f_T, f_P, hl_T, hl_P]; done))
  have k_Q_2 : W2.cell? ⟨wb.heap.size, 2, none⟩ = some (.slice none 0 0) := by rw [← hW]; (first | (go_simp; done) | (simp; done) | (simp [go_sem]; done) | (simp [go_sem, k_T_0, k_T_1, k_T_2, k_T_3, k_P_0, k_P_1, k_P_2, f_T, f_P, hl_T, hl_P]; done))
  have f_Q : ∀ o, W2.frozen? ⟨wb.heap.size, o, none⟩ = false := by intro o; rw [← hW]; (first | (go_simp; done) | (simp; done) | (simp [go_sem]; done) | (simp [go_sem, k_T_0, k_T_1, k_T_2, k_T_3, k_P_0, k_P_1, k_P_2, f_T, f_P, hl_T, hl_P]; done))
  have HX_Q := Lib.hid (show Bn W2 (wb.heap.size) by rw [← hW]; exact KpA)
  replace HB := Lib.hid (show Below w.heap.size w W2 by rw [← hW]; exact BlA)
  replace hN : N ≤ W2.heap.size := by rw [← hW]; (first | omega | (simp; done) | (simp; omega))
  replace hs0 : w.heap.size ≤ W2.heap.size := by rw [← hW]; (first | omega | (simp; done) | (simp; omega))
  replace hl_T : w.heap.size < W2.heap.size := by rw [← hW]; (first | omega | (simp; done) | (simp; omega))
  replace hl_P : wa.heap.size < W2.heap.size := by rw [← hW]; (first | omega | (simp; done) | (simp; omega))
  have hl_Q : wb.heap.size < W2.heap.size := by rw [← hW]; (first | omega | (simp; done) | (simp; omega))
  clear HL_W2
  clear hW
  refine (fisher_bad (N := N) b a d c _ hN HVs.out).mono ?_
  rintro e wc ⟨rfl, hb⟩
  have hs_wc : W2.heap.size ≤ wc.heap.size := hb.size
  replace k_T_0 : wc.cell? ⟨w.heap.size, 0, none⟩ = some (.int .i64 a) := (hb.cell (p := ⟨w.heap.size, 0, none⟩) hl_T).trans k_T_0
  replace k_T_1 : wc.cell? ⟨w.heap.size, 1, none⟩ = some (.int .i64 b) := (hb.cell (p := ⟨w.heap.size, 1, none⟩) hl_T).trans k_T_1
  replace k_T_2 : wc.cell? ⟨w.heap.size, 2, none⟩ = some (.int .i64 c) := (hb.cell (p := ⟨w.heap.size, 2, none⟩) hl_T).trans k_T_2
  replace k_T_3 : wc.cell? ⟨w.heap.size, 3, none⟩ = some (.int .i64 d) := (hb.cell (p := ⟨w.heap.size, 3, none⟩) hl_T).trans k_T_3
  replace f_T : ∀ o, wc.frozen? ⟨w.heap.size, o, none⟩ = false := fun o => (hb.frozen (p := ⟨w.heap.size, o, none⟩) hl_T).trans (f_T o)
  replace HX_T := Lib.hid (HX_T.out.below hb)
  replace k_P_0 : wc.cell? ⟨wa.heap.size, 0, none⟩ = some (.bool false) := (hb.cell (p := ⟨wa.heap.size, 0, none⟩) hl_P).trans k_P_0
  replace k_P_1 : wc.cell? ⟨wa.heap.size, 1, none⟩ = some (.slice none 0 0) := (hb.cell (p := ⟨wa.heap.size, 1, none⟩) hl_P).trans k_P_1
  replace k_P_2 : wc.cell? ⟨wa.heap.size, 2, none⟩ = some (.slice none 0 0) := (hb.cell (p := ⟨wa.heap.size, 2, none⟩) hl_P).trans k_P_2
  replace f_P : ∀ o, wc.frozen? ⟨wa.heap.size, o, none⟩ = false := fun o => (hb.frozen (p := ⟨wa.heap.size, o, none⟩) hl_P).trans (f_P o)
  replace HX_P := Lib.hid (HX_P.out.below hb)
  replace k_Q_0 : wc.cell? ⟨wb.heap.size, 0, none⟩ = some (.bool false) := (hb.cell (p := ⟨wb.heap.size, 0, none⟩) hl_Q).trans k_Q_0
  replace k_Q_1 : wc.cell? ⟨wb.heap.size, 1, none⟩ = some (.slice none 0 0) := (hb.cell (p := ⟨wb.heap.size, 1, none⟩) hl_Q).trans k_Q_1
  replace k_Q_2 : wc.cell? ⟨wb.heap.size, 2, none⟩ = some (.slice none 0 0) := (hb.cell (p := ⟨wb.heap.size, 2, none⟩) hl_Q).trans k_Q_2
  replace f_Q : ∀ o, wc.frozen? ⟨wb.heap.size, o, none⟩ = false := fun o => (hb.frozen (p := ⟨wb.heap.size, o, none⟩) hl_Q).trans (f_Q o)
  replace HX_Q := Lib.hid (HX_Q.out.below hb)
  replace HB := Lib.hid (HB.out.trans (hb.mono hs0))
  replace hN : N ≤ wc.heap.size := Nat.le_trans hN hb.size
  replace hs0 : w.heap.size ≤ wc.heap.size := Nat.le_trans hs0 hb.size
  replace hl_T : w.heap.size < wc.heap.size := Nat.lt_of_lt_of_le hl_T hb.size
  replace hl_P : wa.heap.size < wc.heap.size := Nat.lt_of_lt_of_le hl_P hb.size
  replace hl_Q : wb.heap.size < wc.heap.size := Nat.lt_of_lt_of_le hl_Q hb.size
  clear hb
  go_wp2_with fail
  refine calls_name fun W3 hW => ?_
  have HL_W3 := Lib.hid (show Below wc.heap.size wc W3 by rw [← hW]; exact BlA)
  have hs_W3 : wc.heap.size ≤ W3.heap.size := by rw [← hW]; (first | omega | (simp; done) | (simp; omega))
  have hd_T_R : w.heap.size < wc.heap.size := by omega
  have hd_P_R : wa.heap.size < wc.heap.size := by omega
  have hd_Q_R : wb.heap.size < wc.heap.size := by omega
  have HZ1 := Lib.hid (Nt.zero N W3)
  have HZ2 := Lib.hid (Nt.zero N W3)
  replace k_T_0 : W3.cell? ⟨w.heap.size, 0, none⟩ = some (.int .i64 a) := (HL_W3.out.cell (p := ⟨w.heap.size, 0, none⟩) hl_T).trans k_T_0
  replace k_T_1 : W3.cell? ⟨w.heap.size, 1, none⟩ = some (.int .i64 b) := (HL_W3.out.cell (p := ⟨w.heap.size, 1, none⟩) hl_T).trans k_T_1
  replace k_T_2 : W3.cell? ⟨w.heap.size, 2, none⟩ = some (.int .i64 c) := (HL_W3.out.cell (p := ⟨w.heap.size, 2, none⟩) hl_T).trans k_T_2
  replace k_T_3 : W3.cell? ⟨w.heap.size, 3, none⟩ = some (.int .i64 d) := (HL_W3.out.cell (p := ⟨w.heap.size, 3, none⟩) hl_T).trans k_T_3
  replace f_T : ∀ o, W3.frozen? ⟨w.heap.size, o, none⟩ = false := fun o => (HL_W3.out.frozen (p := ⟨w.heap.size, o, none⟩) hl_T).trans (f_T o)
  replace HX_T := Lib.hid (show Bn W3 (w.heap.size) by rw [← hW]; exact KpA)
  replace k_P_0 : W3.cell? ⟨wa.heap.size, 0, none⟩ = some (.bool false) := (HL_W3.out.cell (p := ⟨wa.heap.size, 0, none⟩) hl_P).trans k_P_0
  replace k_P_1 : W3.cell? ⟨wa.heap.size, 1, none⟩ = some (.slice none 0 0) := (HL_W3.out.cell (p := ⟨wa.heap.size, 1, none⟩) hl_P).trans k_P_1
  replace k_P_2 : W3.cell? ⟨wa.heap.size, 2, none⟩ = some (.slice none 0 0) := (HL_W3.out.cell (p := ⟨wa.heap.size, 2, none⟩) hl_P).trans k_P_2
  replace f_P : ∀ o, W3.frozen? ⟨wa.heap.size, o, none⟩ = false := fun o => (HL_W3.out.frozen (p := ⟨wa.heap.size, o, none⟩) hl_P).trans (f_P o)
  replace HX_P := Lib.hid (show Bn W3 (wa.heap.size) by rw [← hW]; exact KpA)
  replace k_Q_0 : W3.cell? ⟨wb.heap.size, 0, none⟩ = some (.bool false) := (HL_W3.out.cell (p := ⟨wb.heap.size, 0, none⟩) hl_Q).trans k_Q_0
  replace k_Q_1 : W3.cell? ⟨wb.heap.size, 1, none⟩ = some (.slice none 0 0) := (HL_W3.out.cell (p := ⟨wb.heap.size, 1, none⟩) hl_Q).trans k_Q_1
  replace k_Q_2 : W3.cell? ⟨wb.heap.size, 2, none⟩ = some (.slice none 0 0) := (HL_W3.out.cell (p := ⟨wb.heap.size, 2, none⟩) hl_Q).trans k_Q_2
  replace f_Q : ∀ o, W3.frozen? ⟨wb.heap.size, o, none⟩ = false := fun o => (HL_W3.out.frozen (p := ⟨wb.heap.size, o, none⟩) hl_Q).trans (f_Q o)
  replace HX_Q := Lib.hid (show Bn W3 (wb.heap.size) by rw [← hW]; exact KpA)
  have k_R_0 : W3.cell? ⟨wc.heap.size, 0, none⟩ = some (.bool false) := by rw [← hW]; (first | (go_simp; done) | (simp; done) | (simp [go_sem]; done) | (simp [go_sem, k_T_0, k_T_1, k_T_2, k_T_3, k_P_0, k_P_1, k_P_2, k_Q_0, k_Q_1, k_Q_2, f_T, f_P, f_Q, hl_T, hl_P, hl_Q]; done))
  have k_R_1 : W3.cell? ⟨wc.heap.size, 1, none⟩ = some (.slice none 0 0) := by rw [← hW]; (first | (go_simp; done) | (simp; done) | (simp [go_sem]; done) | (simp [go_sem, k_T_0, k_T_1, k_T_2, k_T_3, k_P_0, k_P_1, k_P_2, k_Q_0, k_Q_1, k_Q_2, f_T, f_P, f_Q, hl_T, hl_P, hl_Q]; done))
  have k_R_2 : W3.cell? ⟨wc.heap.size, 2, none⟩ = some (.slice none 0 0) := by rw [← hW]; (first | (go_simp; done) | (simp; done) | (simp [go_sem]; done) | (simp [go_sem, k_T_0, k_T_1, k_T_2, k_T_3, k_P_0, k_P_1, k_P_2, k_Q_0, k_Q_1, k_Q_2, f_T, f_P, f_Q, hl_T, hl_P, hl_Q]; done))
  have f_R : ∀ o, W3.frozen? ⟨wc.heap.size, o, none⟩ = false := by intro o; rw [← hW]; (first | (go_simp; done) | (simp; done) | (simp [go_sem]; done) | (simp [go_sem, k_T_0, k_T_1, k_T_2, k_T_3, k_P_0, k_P_1, k_P_2, k_Q_0, k_Q_1, k_Q_2, f_T, f_P, f_Q, hl_T, hl_P, hl_Q]; done))
  have HX_R := Lib.hid (show Bn W3 (wc.heap.size) by rw [← hW]; exact KpA)
  replace HB := Lib.hid (show Below w.heap.size w W3 by rw [← hW]; exact BlA)
  replace hN : N ≤ W3.heap.size := by rw [← hW]; (first | omega | (simp; done) | (simp; omega))
  replace hs0 : w.heap.size ≤ W3.heap.size := by rw [← hW]; (first | omega | (simp; done) | (simp; omega))
  replace hl_T : w.heap.size < W3.heap.size := by rw [← hW]; (first | omega | (simp; done) | (simp; omega))
  replace hl_P : wa.heap.size < W3.heap.size := by rw [← hW]; (first | omega | (simp; done) | (simp; omega))
  replace hl_Q : wb.heap.size < W3.heap.size := by rw [← hW]; (first | omega | (simp; done) | (simp; omega))
  have hl_R : wc.heap.size < W3.heap.size := by rw [← hW]; (first | omega | (simp; done) | (simp; omega))
  clear HL_W3
  clear hW
  clear hl_T f_T HX_T k_T_0 k_T_1 k_T_2 k_T_3
  refine (SameRatio_any (N := N) _ _ _ _ _ _ _ _ _ _ _ _ _ _ hN HZ1.out HZ1.out HZ2.out HZ2.out).mono ?_
  rintro e wd1 ⟨rfl, hb⟩
  have hs_wd1 : W3.heap.size ≤ wd1.heap.size := hb.size
  replace k_P_0 : wd1.cell? ⟨wa.heap.size, 0, none⟩ = some (.bool false) := (hb.cell (p := ⟨wa.heap.size, 0, none⟩) hl_P).trans k_P_0
  replace k_P_1 : wd1.cell? ⟨wa.heap.size, 1, none⟩ = some (.slice none 0 0) := (hb.cell (p := ⟨wa.heap.size, 1, none⟩) hl_P).trans k_P_1
  replace k_P_2 : wd1.cell? ⟨wa.heap.size, 2, none⟩ = some (.slice none 0 0) := (hb.cell (p := ⟨wa.heap.size, 2, none⟩) hl_P).trans k_P_2
  replace f_P : ∀ o, wd1.frozen? ⟨wa.heap.size, o, none⟩ = false := fun o => (hb.frozen (p := ⟨wa.heap.size, o, none⟩) hl_P).trans (f_P o)
  replace HX_P := Lib.hid (HX_P.out.below hb)
  replace k_Q_0 : wd1.cell? ⟨wb.heap.size, 0, none⟩ = some (.bool false) := (hb.cell (p := ⟨wb.heap.size, 0, none⟩) hl_Q).trans k_Q_0
  replace k_Q_1 : wd1.cell? ⟨wb.heap.size, 1, none⟩ = some (.slice none 0 0) := (hb.cell (p := ⟨wb.heap.size, 1, none⟩) hl_Q).trans k_Q_1
  replace k_Q_2 : wd1.cell? ⟨wb.heap.size, 2, none⟩ = some (.slice none 0 0) := (hb.cell (p := ⟨wb.heap.size, 2, none⟩) hl_Q).trans k_Q_2
  replace f_Q : ∀ o, wd1.frozen? ⟨wb.heap.size, o, none⟩ = false := fun o => (hb.frozen (p := ⟨wb.heap.size, o, none⟩) hl_Q).trans (f_Q o)
  replace HX_Q := Lib.hid (HX_Q.out.below hb)
  replace k_R_0 : wd1.cell? ⟨wc.heap.size, 0, none⟩ = some (.bool false) := (hb.cell (p := ⟨wc.heap.size, 0, none⟩) hl_R).trans k_R_0
  replace k_R_1 : wd1.cell? ⟨wc.heap.size, 1, none⟩ = some (.slice none 0 0) := (hb.cell (p := ⟨wc.heap.size, 1, none⟩) hl_R).trans k_R_1
  replace k_R_2 : wd1.cell? ⟨wc.heap.size, 2, none⟩ = some (.slice none 0 0) := (hb.cell (p := ⟨wc.heap.size, 2, none⟩) hl_R).trans k_R_2
  replace f_R : ∀ o, wd1.frozen? ⟨wc.heap.size, o, none⟩ = false := fun o => (hb.frozen (p := ⟨wc.heap.size, o, none⟩) hl_R).trans (f_R o)
  replace HX_R := Lib.hid (HX_R.out.below hb)
  replace HB := Lib.hid (HB.out.trans (hb.mono hs0))
  replace hN : N ≤ wd1.heap.size := Nat.le_trans hN hb.size
  replace hs0 : w.heap.size ≤ wd1.heap.size := Nat.le_trans hs0 hb.size
  replace hl_P : wa.heap.size < wd1.heap.size := Nat.lt_of_lt_of_le hl_P hb.size
  replace hl_Q : wb.heap.size < wd1.heap.size := Nat.lt_of_lt_of_le hl_Q hb.size
  replace hl_R : wc.heap.size < wd1.heap.size := Nat.lt_of_lt_of_le hl_R hb.size
  clear hb
  clear HZ1 HZ2
  go_wp2_with fail
  refine calls_name fun W4 hW => ?_
  have HL_W4 := Lib.hid (show Below wd1.heap.size wd1 W4 by rw [← hW]; exact BlA)
  have hs_W4 : wd1.heap.size ≤ W4.heap.size := by rw [← hW]; (first | omega | (simp; done) | (simp; omega))
  have HZ1 := Lib.hid (Nt.zero N W4)
  have HZ2 := Lib.hid (Nt.zero N W4)
  replace k_P_0 : W4.cell? ⟨wa.heap.size, 0, none⟩ = some (.bool false) := (HL_W4.out.cell (p := ⟨wa.heap.size, 0, none⟩) hl_P).trans k_P_0
  replace k_P_1 : W4.cell? ⟨wa.heap.size, 1, none⟩ = some (.slice none 0 0) := (HL_W4.out.cell (p := ⟨wa.heap.size, 1, none⟩) hl_P).trans k_P_1
  replace k_P_2 : W4.cell? ⟨wa.heap.size, 2, none⟩ = some (.slice none 0 0) := (HL_W4.out.cell (p := ⟨wa.heap.size, 2, none⟩) hl_P).trans k_P_2
  replace f_P : ∀ o, W4.frozen? ⟨wa.heap.size, o, none⟩ = false := fun o => (HL_W4.out.frozen (p := ⟨wa.heap.size, o, none⟩) hl_P).trans (f_P o)
  replace HX_P := Lib.hid (show Bn W4 (wa.heap.size) by rw [← hW]; exact KpA)
  replace k_Q_0 : W4.cell? ⟨wb.heap.size, 0, none⟩ = some (.bool false) := (HL_W4.out.cell (p := ⟨wb.heap.size, 0, none⟩) hl_Q).trans k_Q_0
  replace k_Q_1 : W4.cell? ⟨wb.heap.size, 1, none⟩ = some (.slice none 0 0) := (HL_W4.out.cell (p := ⟨wb.heap.size, 1, none⟩) hl_Q).trans k_Q_1
  replace k_Q_2 : W4.cell? ⟨wb.heap.size, 2, none⟩ = some (.slice none 0 0) := (HL_W4.out.cell (p := ⟨wb.heap.size, 2, none⟩) hl_Q).trans k_Q_2
  replace f_Q : ∀ o, W4.frozen? ⟨wb.heap.size, o, none⟩ = false := fun o => (HL_W4.out.frozen (p := ⟨wb.heap.size, o, none⟩) hl_Q).trans (f_Q o)
  replace HX_Q := Lib.hid (show Bn W4 (wb.heap.size) by rw [← hW]; exact KpA)
  replace k_R_0 : W4.cell? ⟨wc.heap.size, 0, none⟩ = some (.bool false) := (HL_W4.out.cell (p := ⟨wc.heap.size, 0, none⟩) hl_R).trans k_R_0
  replace k_R_1 : W4.cell? ⟨wc.heap.size, 1, none⟩ = some (.slice none 0 0) := (HL_W4.out.cell (p := ⟨wc.heap.size, 1, none⟩) hl_R).trans k_R_1
  replace k_R_2 : W4.cell? ⟨wc.heap.size, 2, none⟩ = some (.slice none 0 0) := (HL_W4.out.cell (p := ⟨wc.heap.size, 2, none⟩) hl_R).trans k_R_2
  replace f_R : ∀ o, W4.frozen? ⟨wc.heap.size, o, none⟩ = false := fun o => (HL_W4.out.frozen (p := ⟨wc.heap.size, o, none⟩) hl_R).trans (f_R o)
  replace HX_R := Lib.hid (show Bn W4 (wc.heap.size) by rw [← hW]; exact KpA)
  replace HB := Lib.hid (show Below w.heap.size w W4 by rw [← hW]; exact BlA)
  replace hN : N ≤ W4.heap.size := by rw [← hW]; (first | omega | (simp; done) | (simp; omega))
  replace hs0 : w.heap.size ≤ W4.heap.size := by rw [← hW]; (first | omega | (simp; done) | (simp; omega))
  replace hl_P : wa.heap.size < W4.heap.size := by rw [← hW]; (first | omega | (simp; done) | (simp; omega))
  replace hl_Q : wb.heap.size < W4.heap.size := by rw [← hW]; (first | omega | (simp; done) | (simp; omega))
  replace hl_R : wc.heap.size < W4.heap.size := by rw [← hW]; (first | omega | (simp; done) | (simp; omega))
  clear HL_W4
  clear hW
  refine (SameRatio_any (N := N) _ _ _ _ _ _ _ _ _ _ _ _ _ _ hN HZ1.out HZ1.out HZ2.out HZ2.out).mono ?_
  rintro e wd2 ⟨rfl, hb⟩
  have hs_wd2 : W4.heap.size ≤ wd2.heap.size := hb.size
  replace k_P_0 : wd2.cell? ⟨wa.heap.size, 0, none⟩ = some (.bool false) := (hb.cell (p := ⟨wa.heap.size, 0, none⟩) hl_P).trans k_P_0
  replace k_P_1 : wd2.cell? ⟨wa.heap.size, 1, none⟩ = some (.slice none 0 0) := (hb.cell (p := ⟨wa.heap.size, 1, none⟩) hl_P).trans k_P_1
  replace k_P_2 : wd2.cell? ⟨wa.heap.size, 2, none⟩ = some (.slice none 0 0) := (hb.cell (p := ⟨wa.heap.size, 2, none⟩) hl_P).trans k_P_2
  replace f_P : ∀ o, wd2.frozen? ⟨wa.heap.size, o, none⟩ = false := fun o => (hb.frozen (p := ⟨wa.heap.size, o, none⟩) hl_P).trans (f_P o)
  replace HX_P := Lib.hid (HX_P.out.below hb)
  replace k_Q_0 : wd2.cell? ⟨wb.heap.size, 0, none⟩ = some (.bool false) := (hb.cell (p := ⟨wb.heap.size, 0, none⟩) hl_Q).trans k_Q_0
  replace k_Q_1 : wd2.cell? ⟨wb.heap.size, 1, none⟩ = some (.slice none 0 0) := (hb.cell (p := ⟨wb.heap.size, 1, none⟩) hl_Q).trans k_Q_1
  replace k_Q_2 : wd2.cell? ⟨wb.heap.size, 2, none⟩ = some (.slice none 0 0) := (hb.cell (p := ⟨wb.heap.size, 2, none⟩) hl_Q).trans k_Q_2
  replace f_Q : ∀ o, wd2.frozen? ⟨wb.heap.size, o, none⟩ = false := fun o => (hb.frozen (p := ⟨wb.heap.size, o, none⟩) hl_Q).trans (f_Q o)
  replace HX_Q := Lib.hid (HX_Q.out.below hb)
  replace k_R_0 : wd2.cell? ⟨wc.heap.size, 0, none⟩ = some (.bool false) := (hb.cell (p := ⟨wc.heap.size, 0, none⟩) hl_R).trans k_R_0
  replace k_R_1 : wd2.cell? ⟨wc.heap.size, 1, none⟩ = some (.slice none 0 0) := (hb.cell (p := ⟨wc.heap.size, 1, none⟩) hl_R).trans k_R_1
  replace k_R_2 : wd2.cell? ⟨wc.heap.size, 2, none⟩ = some (.slice none 0 0) := (hb.cell (p := ⟨wc.heap.size, 2, none⟩) hl_R).trans k_R_2
  replace f_R : ∀ o, wd2.frozen? ⟨wc.heap.size, o, none⟩ = false := fun o => (hb.frozen (p := ⟨wc.heap.size, o, none⟩) hl_R).trans (f_R o)
  replace HX_R := Lib.hid (HX_R.out.below hb)
  replace HB := Lib.hid (HB.out.trans (hb.mono hs0))
  replace hN : N ≤ wd2.heap.size := Nat.le_trans hN hb.size
  replace hs0 : w.heap.size ≤ wd2.heap.size := Nat.le_trans hs0 hb.size
  replace hl_P : wa.heap.size < wd2.heap.size := Nat.lt_of_lt_of_le hl_P hb.size
  replace hl_Q : wb.heap.size < wd2.heap.size := Nat.lt_of_lt_of_le hl_Q hb.size
  replace hl_R : wc.heap.size < wd2.heap.size := Nat.lt_of_lt_of_le hl_R hb.size
  clear hb
  clear HZ1 HZ2
  clear hl_R f_R HX_R k_R_0 k_R_1 k_R_2
  go_wp2_with fail
  refine region_name fun W4b hW => ?_
  have HL_W4b := Lib.hid (show Below wd2.heap.size wd2 W4b by rw [← hW]; exact BlA)
  have hs_W4b : wd2.heap.size ≤ W4b.heap.size := by rw [← hW]; (first | omega | (simp; done) | (simp; omega))
  replace k_P_0 : W4b.cell? ⟨wa.heap.size, 0, none⟩ = some (.bool false) := (HL_W4b.out.cell (p := ⟨wa.heap.size, 0, none⟩) hl_P).trans k_P_0
  replace k_P_1 : W4b.cell? ⟨wa.heap.size, 1, none⟩ = some (.slice none 0 0) := (HL_W4b.out.cell (p := ⟨wa.heap.size, 1, none⟩) hl_P).trans k_P_1
  replace k_P_2 : W4b.cell? ⟨wa.heap.size, 2, none⟩ = some (.slice none 0 0) := (HL_W4b.out.cell (p := ⟨wa.heap.size, 2, none⟩) hl_P).trans k_P_2
  replace f_P : ∀ o, W4b.frozen? ⟨wa.heap.size, o, none⟩ = false := fun o => (HL_W4b.out.frozen (p := ⟨wa.heap.size, o, none⟩) hl_P).trans (f_P o)
  replace HX_P := Lib.hid (show Bn W4b (wa.heap.size) by rw [← hW]; exact KpA)
  replace k_Q_0 : W4b.cell? ⟨wb.heap.size, 0, none⟩ = some (.bool false) := (HL_W4b.out.cell (p := ⟨wb.heap.size, 0, none⟩) hl_Q).trans k_Q_0
  replace k_Q_1 : W4b.cell? ⟨wb.heap.size, 1, none⟩ = some (.slice none 0 0) := (HL_W4b.out.cell (p := ⟨wb.heap.size, 1, none⟩) hl_Q).trans k_Q_1
  replace k_Q_2 : W4b.cell? ⟨wb.heap.size, 2, none⟩ = some (.slice none 0 0) := (HL_W4b.out.cell (p := ⟨wb.heap.size, 2, none⟩) hl_Q).trans k_Q_2
  replace f_Q : ∀ o, W4b.frozen? ⟨wb.heap.size, o, none⟩ = false := fun o => (HL_W4b.out.frozen (p := ⟨wb.heap.size, o, none⟩) hl_Q).trans (f_Q o)
  replace HX_Q := Lib.hid (show Bn W4b (wb.heap.size) by rw [← hW]; exact KpA)
  replace HB := Lib.hid (show Below w.heap.size w W4b by rw [← hW]; exact BlA)
  replace hN : N ≤ W4b.heap.size := by rw [← hW]; (first | omega | (simp; done) | (simp; omega))
  replace hs0 : w.heap.size ≤ W4b.heap.size := by rw [← hW]; (first | omega | (simp; done) | (simp; omega))
  replace hl_P : wa.heap.size < W4b.heap.size := by rw [← hW]; (first | omega | (simp; done) | (simp; omega))
  replace hl_Q : wb.heap.size < W4b.heap.size := by rw [← hW]; (first | omega | (simp; done) | (simp; omega))
  clear HL_W4b
  clear hW
  go_quiet (fail)
  go_wp2_with fail
  refine calls_name fun W5 hW => ?_
  have hb : Below W4b.heap.size W4b W5 := by rw [← hW]; exact bel_drewN _ _ _
  clear hW
  have hs_W5 : W4b.heap.size ≤ W5.heap.size := hb.size
  replace k_P_0 : W5.cell? ⟨wa.heap.size, 0, none⟩ = some (.bool false) := (hb.cell (p := ⟨wa.heap.size, 0, none⟩) hl_P).trans k_P_0
  replace k_P_1 : W5.cell? ⟨wa.heap.size, 1, none⟩ = some (.slice none 0 0) := (hb.cell (p := ⟨wa.heap.size, 1, none⟩) hl_P).trans k_P_1
  replace k_P_2 : W5.cell? ⟨wa.heap.size, 2, none⟩ = some (.slice none 0 0) := (hb.cell (p := ⟨wa.heap.size, 2, none⟩) hl_P).trans k_P_2
  replace f_P : ∀ o, W5.frozen? ⟨wa.heap.size, o, none⟩ = false := fun o => (hb.frozen (p := ⟨wa.heap.size, o, none⟩) hl_P).trans (f_P o)
  replace HX_P := Lib.hid (HX_P.out.below hb)
  replace k_Q_0 : W5.cell? ⟨wb.heap.size, 0, none⟩ = some (.bool false) := (hb.cell (p := ⟨wb.heap.size, 0, none⟩) hl_Q).trans k_Q_0
  replace k_Q_1 : W5.cell? ⟨wb.heap.size, 1, none⟩ = some (.slice none 0 0) := (hb.cell (p := ⟨wb.heap.size, 1, none⟩) hl_Q).trans k_Q_1
  replace k_Q_2 : W5.cell? ⟨wb.heap.size, 2, none⟩ = some (.slice none 0 0) := (hb.cell (p := ⟨wb.heap.size, 2, none⟩) hl_Q).trans k_Q_2
  replace f_Q : ∀ o, W5.frozen? ⟨wb.heap.size, o, none⟩ = false := fun o => (hb.frozen (p := ⟨wb.heap.size, o, none⟩) hl_Q).trans (f_Q o)
  replace HX_Q := Lib.hid (HX_Q.out.below hb)
  replace HB := Lib.hid (HB.out.trans (hb.mono hs0))
  replace hN : N ≤ W5.heap.size := Nat.le_trans hN hb.size
  replace hs0 : w.heap.size ≤ W5.heap.size := Nat.le_trans hs0 hb.size
  replace hl_P : wa.heap.size < W5.heap.size := Nat.lt_of_lt_of_le hl_P hb.size
  replace hl_Q : wb.heap.size < W5.heap.size := Nat.lt_of_lt_of_le hl_Q hb.size
  clear hb
  refine (sign_bad x y _ hbad).mono ?_
  rintro e we ⟨rfl, hb⟩
  have hs_we : W5.heap.size ≤ we.heap.size := hb.size
  replace k_P_0 : we.cell? ⟨wa.heap.size, 0, none⟩ = some (.bool false) := (hb.cell (p := ⟨wa.heap.size, 0, none⟩) hl_P).trans k_P_0
  replace k_P_1 : we.cell? ⟨wa.heap.size, 1, none⟩ = some (.slice none 0 0) := (hb.cell (p := ⟨wa.heap.size, 1, none⟩) hl_P).trans k_P_1
  replace k_P_2 : we.cell? ⟨wa.heap.size, 2, none⟩ = some (.slice none 0 0) := (hb.cell (p := ⟨wa.heap.size, 2, none⟩) hl_P).trans k_P_2
  replace f_P : ∀ o, we.frozen? ⟨wa.heap.size, o, none⟩ = false := fun o => (hb.frozen (p := ⟨wa.heap.size, o, none⟩) hl_P).trans (f_P o)
  replace HX_P := Lib.hid (HX_P.out.below hb)
  replace k_Q_0 : we.cell? ⟨wb.heap.size, 0, none⟩ = some (.bool false) := (hb.cell (p := ⟨wb.heap.size, 0, none⟩) hl_Q).trans k_Q_0
  replace k_Q_1 : we.cell? ⟨wb.heap.size, 1, none⟩ = some (.slice none 0 0) := (hb.cell (p := ⟨wb.heap.size, 1, none⟩) hl_Q).trans k_Q_1
  replace k_Q_2 : we.cell? ⟨wb.heap.size, 2, none⟩ = some (.slice none 0 0) := (hb.cell (p := ⟨wb.heap.size, 2, none⟩) hl_Q).trans k_Q_2
  replace f_Q : ∀ o, we.frozen? ⟨wb.heap.size, o, none⟩ = false := fun o => (hb.frozen (p := ⟨wb.heap.size, o, none⟩) hl_Q).trans (f_Q o)
  replace HX_Q := Lib.hid (HX_Q.out.below hb)
  replace HB := Lib.hid (HB.out.trans (hb.mono hs0))
  replace hN : N ≤ we.heap.size := Nat.le_trans hN hb.size
  replace hs0 : w.heap.size ≤ we.heap.size := Nat.le_trans hs0 hb.size
  replace hl_P : wa.heap.size < we.heap.size := Nat.lt_of_lt_of_le hl_P hb.size
  replace hl_Q : wb.heap.size < we.heap.size := Nat.lt_of_lt_of_le hl_Q hb.size
  clear hb
  go_wp2_with fail
  refine calls_name fun W6 hW => ?_
  have hs_W6 : we.heap.size ≤ W6.heap.size := by rw [← hW]; (first | omega | (simp; done) | (simp; omega))
  replace k_P_0 : W6.cell? ⟨wa.heap.size, 0, none⟩ = some (.bool false) := by rw [← hW]; (first | (go_simp; done) | (simp [go_sem, k_P_0]; done) | (simp [go_sem, k_P_0, k_P_1, k_P_2]; done) | (simp [go_sem, k_P_0, k_P_1, k_P_2, k_Q_0, k_Q_1, k_Q_2, f_P, f_Q, hl_P, hl_Q]; done))
  replace k_P_1 : W6.cell? ⟨wa.heap.size, 1, none⟩ = some (.slice none 0 0) := by rw [← hW]; (first | (go_simp; done) | (simp [go_sem, k_P_1]; done) | (simp [go_sem, k_P_0, k_P_1, k_P_2]; done) | (simp [go_sem, k_P_0, k_P_1, k_P_2, k_Q_0, k_Q_1, k_Q_2, f_P, f_Q, hl_P, hl_Q]; done))
  replace k_P_2 : W6.cell? ⟨wa.heap.size, 2, none⟩ = some (.slice none 0 0) := by rw [← hW]; (first | (go_simp; done) | (simp [go_sem, k_P_2]; done) | (simp [go_sem, k_P_0, k_P_1, k_P_2]; done) | (simp [go_sem, k_P_0, k_P_1, k_P_2, k_Q_0, k_Q_1, k_Q_2, f_P, f_Q, hl_P, hl_Q]; done))
  replace f_P : ∀ o, W6.frozen? ⟨wa.heap.size, o, none⟩ = false := by intro o; rw [← hW]; (first | with_reducible exact f_P o | (simp [go_sem, f_P]; done) | (simp [go_sem, f_P, hl_P]; done) | (go_simp; done) | (simp [go_sem, k_P_0, k_P_1, k_P_2, k_Q_0, k_Q_1, k_Q_2, f_P, f_Q, hl_P, hl_Q]; done))
  replace HX_P := Lib.hid (show Bn W6 (wa.heap.size) by rw [← hW]; exact KpA)
  replace k_Q_0 : W6.cell? ⟨wb.heap.size, 0, none⟩ = some (.bool false) := by rw [← hW]; (first | with_reducible exact k_Q_0 | (simp [go_sem, k_Q_0]; done) | (simp [go_sem, k_Q_0, hl_Q]; done) | (go_simp; done) | (simp [go_sem, k_P_0, k_P_1, k_P_2, k_Q_0, k_Q_1, k_Q_2, f_P, f_Q, hl_P, hl_Q]; done))
  replace k_Q_1 : W6.cell? ⟨wb.heap.size, 1, none⟩ = some (.slice none 0 0) := by rw [← hW]; (first | with_reducible exact k_Q_1 | (simp [go_sem, k_Q_1]; done) | (simp [go_sem, k_Q_1, hl_Q]; done) | (go_simp; done) | (simp [go_sem, k_P_0, k_P_1, k_P_2, k_Q_0, k_Q_1, k_Q_2, f_P, f_Q, hl_P, hl_Q]; done))
  replace k_Q_2 : W6.cell? ⟨wb.heap.size, 2, none⟩ = some (.slice none 0 0) := by rw [← hW]; (first | with_reducible exact k_Q_2 | (simp [go_sem, k_Q_2]; done) | (simp [go_sem, k_Q_2, hl_Q]; done) | (go_simp; done) | (simp [go_sem, k_P_0, k_P_1, k_P_2, k_Q_0, k_Q_1, k_Q_2, f_P, f_Q, hl_P, hl_Q]; done))
  replace f_Q : ∀ o, W6.frozen? ⟨wb.heap.size, o, none⟩ = false := by intro o; rw [← hW]; (first | with_reducible exact f_Q o | (simp [go_sem, f_Q]; done) | (simp [go_sem, f_Q, hl_Q]; done) | (go_simp; done) | (simp [go_sem, k_P_0, k_P_1, k_P_2, k_Q_0, k_Q_1, k_Q_2, f_P, f_Q, hl_P, hl_Q]; done))
  replace HX_Q := Lib.hid (show Bn W6 (wb.heap.size) by rw [← hW]; exact KpA)
  replace HB := Lib.hid (show Below w.heap.size w W6 by rw [← hW]; exact BlA)
  replace hN : N ≤ W6.heap.size := by rw [← hW]; (first | omega | (simp; done) | (simp; omega))
  replace hs0 : w.heap.size ≤ W6.heap.size := by rw [← hW]; (first | omega | (simp; done) | (simp; omega))
  replace hl_P : wa.heap.size < W6.heap.size := by rw [← hW]; (first | omega | (simp; done) | (simp; omega))
  replace hl_Q : wb.heap.size < W6.heap.size := by rw [← hW]; (first | omega | (simp; done) | (simp; omega))
  clear hW
  refine (sign_bad y x _ (by omega)).mono ?_
  rintro e wf ⟨rfl, hb⟩
  have hs_wf : W6.heap.size ≤ wf.heap.size := hb.size
  replace k_P_0 : wf.cell? ⟨wa.heap.size, 0, none⟩ = some (.bool false) := (hb.cell (p := ⟨wa.heap.size, 0, none⟩) hl_P).trans k_P_0
  replace k_P_1 : wf.cell? ⟨wa.heap.size, 1, none⟩ = some (.slice none 0 0) := (hb.cell (p := ⟨wa.heap.size, 1, none⟩) hl_P).trans k_P_1
  replace k_P_2 : wf.cell? ⟨wa.heap.size, 2, none⟩ = some (.slice none 0 0) := (hb.cell (p := ⟨wa.heap.size, 2, none⟩) hl_P).trans k_P_2
  replace f_P : ∀ o, wf.frozen? ⟨wa.heap.size, o, none⟩ = false := fun o => (hb.frozen (p := ⟨wa.heap.size, o, none⟩) hl_P).trans (f_P o)
  replace HX_P := Lib.hid (HX_P.out.below hb)
  replace k_Q_0 : wf.cell? ⟨wb.heap.size, 0, none⟩ = some (.bool false) := (hb.cell (p := ⟨wb.heap.size, 0, none⟩) hl_Q).trans k_Q_0
  replace k_Q_1 : wf.cell? ⟨wb.heap.size, 1, none⟩ = some (.slice none 0 0) := (hb.cell (p := ⟨wb.heap.size, 1, none⟩) hl_Q).trans k_Q_1
  replace k_Q_2 : wf.cell? ⟨wb.heap.size, 2, none⟩ = some (.slice none 0 0) := (hb.cell (p := ⟨wb.heap.size, 2, none⟩) hl_Q).trans k_Q_2
  replace f_Q : ∀ o, wf.frozen? ⟨wb.heap.size, o, none⟩ = false := fun o => (hb.frozen (p := ⟨wb.heap.size, o, none⟩) hl_Q).trans (f_Q o)
  replace HX_Q := Lib.hid (HX_Q.out.below hb)
  replace HB := Lib.hid (HB.out.trans (hb.mono hs0))
  replace hN : N ≤ wf.heap.size := Nat.le_trans hN hb.size
  replace hs0 : w.heap.size ≤ wf.heap.size := Nat.le_trans hs0 hb.size
  replace hl_P : wa.heap.size < wf.heap.size := Nat.lt_of_lt_of_le hl_P hb.size
  replace hl_Q : wb.heap.size < wf.heap.size := Nat.lt_of_lt_of_le hl_Q hb.size
  clear hb
  go_wp2_with fail
  refine region_name fun W7 hW => ?_
  have hs_W7 : wf.heap.size ≤ W7.heap.size := by rw [← hW]; (first | omega | (simp; done) | (simp; omega))
  replace k_P_0 : W7.cell? ⟨wa.heap.size, 0, none⟩ = some (.bool false) := by rw [← hW]; (first | with_reducible exact k_P_0 | (simp [go_sem, k_P_0]; done) | (simp [go_sem, k_P_0, hl_P]; done) | (go_simp; done) | (simp [go_sem, k_P_0, k_P_1, k_P_2, k_Q_0, k_Q_1, k_Q_2, f_P, f_Q, hl_P, hl_Q]; done))
  replace k_P_1 : W7.cell? ⟨wa.heap.size, 1, none⟩ = some (.slice none 0 0) := by rw [← hW]; (first | with_reducible exact k_P_1 | (simp [go_sem, k_P_1]; done) | (simp [go_sem, k_P_1, hl_P]; done) | (go_simp; done) | (simp [go_sem, k_P_0, k_P_1, k_P_2, k_Q_0, k_Q_1, k_Q_2, f_P, f_Q, hl_P, hl_Q]; done))
  replace k_P_2 : W7.cell? ⟨wa.heap.size, 2, none⟩ = some (.slice none 0 0) := by rw [← hW]; (first | with_reducible exact k_P_2 | (simp [go_sem, k_P_2]; done) | (simp [go_sem, k_P_2, hl_P]; done) | (go_simp; done) | (simp [go_sem, k_P_0, k_P_1, k_P_2, k_Q_0, k_Q_1, k_Q_2, f_P, f_Q, hl_P, hl_Q]; done))
  replace f_P : ∀ o, W7.frozen? ⟨wa.heap.size, o, none⟩ = false := by intro o; rw [← hW]; (first | with_reducible exact f_P o | (simp [go_sem, f_P]; done) | (simp [go_sem, f_P, hl_P]; done) | (go_simp; done) | (simp [go_sem, k_P_0, k_P_1, k_P_2, k_Q_0, k_Q_1, k_Q_2, f_P, f_Q, hl_P, hl_Q]; done))
  replace HX_P := Lib.hid (show Bn W7 (wa.heap.size) by rw [← hW]; exact KpA)
  replace k_Q_0 : W7.cell? ⟨wb.heap.size, 0, none⟩ = some (.bool false) := by rw [← hW]; (first | (go_simp; done) | (simp [go_sem, k_Q_0]; done) | (simp [go_sem, k_Q_0, k_Q_1, k_Q_2]; done) | (simp [go_sem, k_P_0, k_P_1, k_P_2, k_Q_0, k_Q_1, k_Q_2, f_P, f_Q, hl_P, hl_Q]; done))
  replace k_Q_1 : W7.cell? ⟨wb.heap.size, 1, none⟩ = some (.slice none 0 0) := by rw [← hW]; (first | (go_simp; done) | (simp [go_sem, k_Q_1]; done) | (simp [go_sem, k_Q_0, k_Q_1, k_Q_2]; done) | (simp [go_sem, k_P_0, k_P_1, k_P_2, k_Q_0, k_Q_1, k_Q_2, f_P, f_Q, hl_P, hl_Q]; done))
  replace k_Q_2 : W7.cell? ⟨wb.heap.size, 2, none⟩ = some (.slice none 0 0) := by rw [← hW]; (first | (go_simp; done) | (simp [go_sem, k_Q_2]; done) | (simp [go_sem, k_Q_0, k_Q_1, k_Q_2]; done) | (simp [go_sem, k_P_0, k_P_1, k_P_2, k_Q_0, k_Q_1, k_Q_2, f_P, f_Q, hl_P, hl_Q]; done))
  replace f_Q : ∀ o, W7.frozen? ⟨wb.heap.size, o, none⟩ = false := by intro o; rw [← hW]; (first | with_reducible exact f_Q o | (simp [go_sem, f_Q]; done) | (simp [go_sem, f_Q, hl_Q]; done) | (go_simp; done) | (simp [go_sem, k_P_0, k_P_1, k_P_2, k_Q_0, k_Q_1, k_Q_2, f_P, f_Q, hl_P, hl_Q]; done))
  replace HX_Q := Lib.hid (show Bn W7 (wb.heap.size) by rw [← hW]; exact KpA)
  replace HB := Lib.hid (show Below w.heap.size w W7 by rw [← hW]; exact BlA)
  replace hN : N ≤ W7.heap.size := by rw [← hW]; (first | omega | (simp; done) | (simp; omega))
  replace hs0 : w.heap.size ≤ W7.heap.size := by rw [← hW]; (first | omega | (simp; done) | (simp; omega))
  replace hl_P : wa.heap.size < W7.heap.size := by rw [← hW]; (first | omega | (simp; done) | (simp; omega))
  replace hl_Q : wb.heap.size < W7.heap.size := by rw [← hW]; (first | omega | (simp; done) | (simp; omega))
  clear hW
  go_quiet (fail)
  go_wp2_with fail
  refine calls_name fun W8 hW => ?_
  have hb : Below W7.heap.size W7 W8 := by rw [← hW]; exact bel_drewN _ _ _
  clear hW
  have hs_W8 : W7.heap.size ≤ W8.heap.size := hb.size
  replace k_P_0 : W8.cell? ⟨wa.heap.size, 0, none⟩ = some (.bool false) := (hb.cell (p := ⟨wa.heap.size, 0, none⟩) hl_P).trans k_P_0
  replace k_P_1 : W8.cell? ⟨wa.heap.size, 1, none⟩ = some (.slice none 0 0) := (hb.cell (p := ⟨wa.heap.size, 1, none⟩) hl_P).trans k_P_1
  replace k_P_2 : W8.cell? ⟨wa.heap.size, 2, none⟩ = some (.slice none 0 0) := (hb.cell (p := ⟨wa.heap.size, 2, none⟩) hl_P).trans k_P_2
  replace f_P : ∀ o, W8.frozen? ⟨wa.heap.size, o, none⟩ = false := fun o => (hb.frozen (p := ⟨wa.heap.size, o, none⟩) hl_P).trans (f_P o)
  replace HX_P := Lib.hid (HX_P.out.below hb)
  replace k_Q_0 : W8.cell? ⟨wb.heap.size, 0, none⟩ = some (.bool false) := (hb.cell (p := ⟨wb.heap.size, 0, none⟩) hl_Q).trans k_Q_0
  replace k_Q_1 : W8.cell? ⟨wb.heap.size, 1, none⟩ = some (.slice none 0 0) := (hb.cell (p := ⟨wb.heap.size, 1, none⟩) hl_Q).trans k_Q_1
  replace k_Q_2 : W8.cell? ⟨wb.heap.size, 2, none⟩ = some (.slice none 0 0) := (hb.cell (p := ⟨wb.heap.size, 2, none⟩) hl_Q).trans k_Q_2
  replace f_Q : ∀ o, W8.frozen? ⟨wb.heap.size, o, none⟩ = false := fun o => (hb.frozen (p := ⟨wb.heap.size, o, none⟩) hl_Q).trans (f_Q o)
  replace HX_Q := Lib.hid (HX_Q.out.below hb)
  replace HB := Lib.hid (HB.out.trans (hb.mono hs0))
  replace hN : N ≤ W8.heap.size := Nat.le_trans hN hb.size
  replace hs0 : w.heap.size ≤ W8.heap.size := Nat.le_trans hs0 hb.size
  replace hl_P : wa.heap.size < W8.heap.size := Nat.lt_of_lt_of_le hl_P hb.size
  replace hl_Q : wb.heap.size < W8.heap.size := Nat.lt_of_lt_of_le hl_Q hb.size
  clear hb
  have HZ1 := Lib.hid (Nt.zero N W8)
  have HZ2 := Lib.hid (Nt.zero N W8)
  refine (SameRatio_any (N := N) _ _ _ _ _ _ _ _ _ _ _ _ _ _ hN HZ1.out HZ1.out HZ2.out HZ2.out).mono ?_
  rintro e wg ⟨rfl, hb⟩
  have hs_wg : W8.heap.size ≤ wg.heap.size := hb.size
  replace k_P_0 : wg.cell? ⟨wa.heap.size, 0, none⟩ = some (.bool false) := (hb.cell (p := ⟨wa.heap.size, 0, none⟩) hl_P).trans k_P_0
  replace k_P_1 : wg.cell? ⟨wa.heap.size, 1, none⟩ = some (.slice none 0 0) := (hb.cell (p := ⟨wa.heap.size, 1, none⟩) hl_P).trans k_P_1
  replace k_P_2 : wg.cell? ⟨wa.heap.size, 2, none⟩ = some (.slice none 0 0) := (hb.cell (p := ⟨wa.heap.size, 2, none⟩) hl_P).trans k_P_2
  replace f_P : ∀ o, wg.frozen? ⟨wa.heap.size, o, none⟩ = false := fun o => (hb.frozen (p := ⟨wa.heap.size, o, none⟩) hl_P).trans (f_P o)
  replace HX_P := Lib.hid (HX_P.out.below hb)
  replace k_Q_0 : wg.cell? ⟨wb.heap.size, 0, none⟩ = some (.bool false) := (hb.cell (p := ⟨wb.heap.size, 0, none⟩) hl_Q).trans k_Q_0
  replace k_Q_1 : wg.cell? ⟨wb.heap.size, 1, none⟩ = some (.slice none 0 0) := (hb.cell (p := ⟨wb.heap.size, 1, none⟩) hl_Q).trans k_Q_1
  replace k_Q_2 : wg.cell? ⟨wb.heap.size, 2, none⟩ = some (.slice none 0 0) := (hb.cell (p := ⟨wb.heap.size, 2, none⟩) hl_Q).trans k_Q_2
  replace f_Q : ∀ o, wg.frozen? ⟨wb.heap.size, o, none⟩ = false := fun o => (hb.frozen (p := ⟨wb.heap.size, o, none⟩) hl_Q).trans (f_Q o)
  replace HX_Q := Lib.hid (HX_Q.out.below hb)
  replace HB := Lib.hid (HB.out.trans (hb.mono hs0))
  replace hN : N ≤ wg.heap.size := Nat.le_trans hN hb.size
  replace hs0 : w.heap.size ≤ wg.heap.size := Nat.le_trans hs0 hb.size
  replace hl_P : wa.heap.size < wg.heap.size := Nat.lt_of_lt_of_le hl_P hb.size
  replace hl_Q : wb.heap.size < wg.heap.size := Nat.lt_of_lt_of_le hl_Q hb.size
  clear hb
  go_wp2_with fail
  refine calls_name fun W9 hW => ?_
  have HL_W9 := Lib.hid (show Below wg.heap.size wg W9 by rw [← hW]; exact BlA)
  have hs_W9 : wg.heap.size ≤ W9.heap.size := by rw [← hW]; (first | omega | (simp; done) | (simp; omega))
  replace k_P_0 : W9.cell? ⟨wa.heap.size, 0, none⟩ = some (.bool false) := (HL_W9.out.cell (p := ⟨wa.heap.size, 0, none⟩) hl_P).trans k_P_0
  replace k_P_1 : W9.cell? ⟨wa.heap.size, 1, none⟩ = some (.slice none 0 0) := (HL_W9.out.cell (p := ⟨wa.heap.size, 1, none⟩) hl_P).trans k_P_1
  replace k_P_2 : W9.cell? ⟨wa.heap.size, 2, none⟩ = some (.slice none 0 0) := (HL_W9.out.cell (p := ⟨wa.heap.size, 2, none⟩) hl_P).trans k_P_2
  replace f_P : ∀ o, W9.frozen? ⟨wa.heap.size, o, none⟩ = false := fun o => (HL_W9.out.frozen (p := ⟨wa.heap.size, o, none⟩) hl_P).trans (f_P o)
  replace HX_P := Lib.hid (show Bn W9 (wa.heap.size) by rw [← hW]; exact KpA)
  replace k_Q_0 : W9.cell? ⟨wb.heap.size, 0, none⟩ = some (.bool false) := (HL_W9.out.cell (p := ⟨wb.heap.size, 0, none⟩) hl_Q).trans k_Q_0
  replace k_Q_1 : W9.cell? ⟨wb.heap.size, 1, none⟩ = some (.slice none 0 0) := (HL_W9.out.cell (p := ⟨wb.heap.size, 1, none⟩) hl_Q).trans k_Q_1
  replace k_Q_2 : W9.cell? ⟨wb.heap.size, 2, none⟩ = some (.slice none 0 0) := (HL_W9.out.cell (p := ⟨wb.heap.size, 2, none⟩) hl_Q).trans k_Q_2
  replace f_Q : ∀ o, W9.frozen? ⟨wb.heap.size, o, none⟩ = false := fun o => (HL_W9.out.frozen (p := ⟨wb.heap.size, o, none⟩) hl_Q).trans (f_Q o)
  replace HX_Q := Lib.hid (show Bn W9 (wb.heap.size) by rw [← hW]; exact KpA)
  replace HB := Lib.hid (show Below w.heap.size w W9 by rw [← hW]; exact BlA)
  replace hN : N ≤ W9.heap.size := by rw [← hW]; (first | omega | (simp; done) | (simp; omega))
  replace hs0 : w.heap.size ≤ W9.heap.size := by rw [← hW]; (first | omega | (simp; done) | (simp; omega))
  replace hl_P : wa.heap.size < W9.heap.size := by rw [← hW]; (first | omega | (simp; done) | (simp; omega))
  replace hl_Q : wb.heap.size < W9.heap.size := by rw [← hW]; (first | omega | (simp; done) | (simp; omega))
  clear HL_W9
  clear hW
  refine (dawake_any (N := N) _ hN (HTw.out.below HB.out)).mono ?_
  rintro e wh ⟨rfl, hb⟩
  have hs_wh : W9.heap.size ≤ wh.heap.size := hb.size
  replace k_P_0 : wh.cell? ⟨wa.heap.size, 0, none⟩ = some (.bool false) := (hb.cell (p := ⟨wa.heap.size, 0, none⟩) hl_P).trans k_P_0
  replace k_P_1 : wh.cell? ⟨wa.heap.size, 1, none⟩ = some (.slice none 0 0) := (hb.cell (p := ⟨wa.heap.size, 1, none⟩) hl_P).trans k_P_1
  replace k_P_2 : wh.cell? ⟨wa.heap.size, 2, none⟩ = some (.slice none 0 0) := (hb.cell (p := ⟨wa.heap.size, 2, none⟩) hl_P).trans k_P_2
  replace f_P : ∀ o, wh.frozen? ⟨wa.heap.size, o, none⟩ = false := fun o => (hb.frozen (p := ⟨wa.heap.size, o, none⟩) hl_P).trans (f_P o)
  replace HX_P := Lib.hid (HX_P.out.below hb)
  replace k_Q_0 : wh.cell? ⟨wb.heap.size, 0, none⟩ = some (.bool false) := (hb.cell (p := ⟨wb.heap.size, 0, none⟩) hl_Q).trans k_Q_0
  replace k_Q_1 : wh.cell? ⟨wb.heap.size, 1, none⟩ = some (.slice none 0 0) := (hb.cell (p := ⟨wb.heap.size, 1, none⟩) hl_Q).trans k_Q_1
  replace k_Q_2 : wh.cell? ⟨wb.heap.size, 2, none⟩ = some (.slice none 0 0) := (hb.cell (p := ⟨wb.heap.size, 2, none⟩) hl_Q).trans k_Q_2
  replace f_Q : ∀ o, wh.frozen? ⟨wb.heap.size, o, none⟩ = false := fun o => (hb.frozen (p := ⟨wb.heap.size, o, none⟩) hl_Q).trans (f_Q o)
  replace HX_Q := Lib.hid (HX_Q.out.below hb)
  replace HB := Lib.hid (HB.out.trans (hb.mono hs0))
  replace hN : N ≤ wh.heap.size := Nat.le_trans hN hb.size
  replace hs0 : w.heap.size ≤ wh.heap.size := Nat.le_trans hs0 hb.size
  replace hl_P : wa.heap.size < wh.heap.size := Nat.lt_of_lt_of_le hl_P hb.size
  replace hl_Q : wb.heap.size < wh.heap.size := Nat.lt_of_lt_of_le hl_Q hb.size
  clear hb
  go_wp2_with fail
  go_ret
  exact ⟨rfl, HB.out⟩


end Go.Proofs.YtnillajhhimeiaaDoor
