/- Contracts of exposure.Filter and of the reference's Filter: the eligible items of a pool. Conditions: numbers of at most 2^30 limbs, lists of at most 2^40 elements. -/
import Derived.Test.YtmljfaplohbjcaaMpR
namespace Go.Proofs.Ytmljfaplohbjcaa
open Go.RowKit

/-- a pool: the items' numbers, and eight more cells each -/
def Pl (w : World) (a : Option Addr) (n cap : Nat) (id : Nat → Int) : Prop :=
  n ≤ cap ∧ cap ≤ maxLen ∧ (0 < n → ∃ b off, a = some ⟨b, off, none⟩ ∧ ∀ i, i < n → W64 (id i) ∧ w.cell? ⟨b, off + i * 9, none⟩ = some (.int .i64 (id i)) ∧
    ∃ (s1 : ByteArray) (u2 u3 u4 u5 u6 u7 : Int) (r8 : Option Addr) (n8 c8 : Nat), w.cell? ⟨b, off + i * 9 + 1, none⟩ = some (.string s1) ∧ w.cell? ⟨b, off + i * 9 + 2, none⟩ = some (.int .i64 u2) ∧ w.cell? ⟨b, off + i * 9 + 3, none⟩ = some (.int .i64 u3) ∧ w.cell? ⟨b, off + i * 9 + 4, none⟩ = some (.int .i64 u4) ∧ w.cell? ⟨b, off + i * 9 + 5, none⟩ = some (.int .i64 u5) ∧ w.cell? ⟨b, off + i * 9 + 6, none⟩ = some (.int .i64 u6) ∧ w.cell? ⟨b, off + i * 9 + 7, none⟩ = some (.int .i64 u7) ∧ w.cell? ⟨b, off + i * 9 + 8, none⟩ = some (.slice r8 n8 c8))
theorem Pl.below {w w' : World} {a : Option Addr} {n cap : Nat} {id : Nat → Int} (h : Pl w a n cap id) (hb : Below w.heap.size w w') : Pl w' a n cap id := by
  obtain ⟨h1, h2, h3⟩ := h
  refine ⟨h1, h2, fun hn => ?_⟩
  obtain ⟨b, off, e, hc⟩ := h3 hn
  refine ⟨b, off, e, fun i hi => ?_⟩
  obtain ⟨g0, g1, s1, u2, u3, u4, u5, u6, u7, r8, n8, c8', c1, c2, c3, c4, c5, c6, c7, c8⟩ := hc i hi
  exact ⟨g0, cell_mono g1 hb, s1, u2, u3, u4, u5, u6, u7, r8, n8, c8', cell_mono c1 hb, cell_mono c2 hb, cell_mono c3 hb, cell_mono c4 hb, cell_mono c5 hb, cell_mono c6 hb, cell_mono c7 hb, cell_mono c8 hb⟩
/-- the eligible ones among the first k -/
def fltI (id : Nat → Int) (E : Int → Bool) : Nat → List Int
  | 0 => []
  | k + 1 => if E (id k) = true then fltI id E k ++ [id k] else fltI id E k
theorem fltI_yes {id : Nat → Int} {E : Int → Bool} {k : Nat} {x : Int} (hx : id k = x) (h : E x = true) : fltI id E (k + 1) = fltI id E k ++ [x] := by rw [fltI, hx, if_pos h]
theorem fltI_no {id : Nat → Int} {E : Int → Bool} {k : Nat} {x : Int} (hx : id k = x) (h : E x = false) : fltI id E (k + 1) = fltI id E k := by rw [fltI, hx, if_neg (by simp [h])]
theorem fltI_len (id : Nat → Int) (E : Int → Bool) : ∀ k, (fltI id E k).length ≤ k
  | 0 => Nat.le_refl _
  | k + 1 => by
    have := fltI_len id E k
    rw [fltI]
    split
    · rw [List.length_append]; simp; omega
    · omega

set_option maxRecDepth 20000 in
set_option maxHeartbeats 4000000 in
theorem filter_any {N : Nat} (pa : Option Addr) (n pc : Nat) (id : Nat → Int) (ua : Option Addr) (m uc : Nat) (it ct : Nat → Int) (served slack : Int) (s : Bool) (a d : Option Addr) (na ca nd cd L : Nat) (q : Rat) (E : Int → Bool) (w : World) (hN : N ≤ w.heap.size) (hp : Pl w pa n pc id) (hu : Us w ua m uc it ct) (h64 : ∀ i, i < m → W64 (it i)) (hr : Rt N w s a na ca d nd cd q L) (hL : L ≤ 1073741824) (hn : n ≤ 1099511627776) (hm : m ≤ 1099511627776) (hE : ∀ x, elig (cntN it ct x m) served q slack = E x) :
    Calls Try.prog 10 #[.slice pa n pc, .slice ua m uc, .int .i64 served, .agg #[.bool s, .slice a na ca, .slice d nd cd], .int .i64 slack] w fun e w' => ∃ v, e = .returned v ∧ Il w' v (rise (fltI id E n)) ∧ Below w.heap.size w w' := by
  have HP := Lib.hid hp
  have HU := Lib.hid hu
  have HR := Lib.hid hr
  have HE := Lib.hid hE
  have b1 := hp.1
  have b2 := hp.2.1
  have b3 := hu.1
  have b4 := hu.2.1
  have hnm : m < maxLen := by unfold maxLen; omega
  unfold maxLen at b2 b4
  clear hp hu hr hE
  have HB := Lib.hid (Below.refl w.heap.size w)
  obtain ⟨i0, hi, hzz⟩ := Option.map_eq_some_iff.1 infoIntE
  simp only [Prod.mk.injEq] at hzz
  obtain ⟨hz0, hz1, hz2⟩ := hzz
  go_enter Try.func10, Try.ntmps10
  go_wp2_with fail
  refine calls_name fun W0 hW => ?_
  have hN_W0 : N ≤ W0.heap.size := by rw [← hW]; (first | omega | (simp; done) | (simp; omega))
  have hs_W0 : w.heap.size ≤ W0.heap.size := by rw [← hW]; (first | omega | (simp; done) | (simp; omega))
  have hs0_W0 : w.heap.size ≤ W0.heap.size := by rw [← hW]; (first | omega | (simp; done) | (simp; omega))
  have hl_R_W0 : w.heap.size < W0.heap.size := by rw [← hW]; (first | omega | (simp; done) | (simp; omega))
  have k_R_0_W0 : W0.cell? ⟨w.heap.size, 0, none⟩ = some (.bool s) := by rw [← hW]; (first | (go_simp; done) | (simp; done) | (simp [go_sem]; done) | (simp [go_sem]; done))
  have k_R_1_W0 : W0.cell? ⟨w.heap.size, 1, none⟩ = some (.slice a na ca) := by rw [← hW]; (first | (go_simp; done) | (simp; done) | (simp [go_sem]; done) | (simp [go_sem]; done))
  have k_R_2_W0 : W0.cell? ⟨w.heap.size, 2, none⟩ = some (.slice d nd cd) := by rw [← hW]; (first | (go_simp; done) | (simp; done) | (simp [go_sem]; done) | (simp [go_sem]; done))
  have f_R_W0 : ∀ o, W0.frozen? ⟨w.heap.size, o, none⟩ = false := by intro o; rw [← hW]; (first | (go_simp; done) | (simp; done) | (simp [go_sem]; done) | (simp [go_sem]; done))
  have HX_R_W0 := Lib.hid (show Bn W0 (w.heap.size) by rw [← hW]; (repeat' (first | with_reducible exact Kp.refl _ _ | with_reducible apply Kp.alloc | with_reducible apply Kp.drew | (with_reducible refine Kp.put ?_ ?_ ?_ _; rotate_left; (focus (first | omega | (simp; done) | (simp; omega))); rotate_left) | (with_reducible refine Bn.new _ _ _ _ ?_ ?_; (focus (first | omega | (simp; done) | (simp; omega))); decide) | with_reducible apply Bn.alloc | with_reducible apply Bn.drew | with_reducible apply Bn.set)))
  have HK_W0 := Lib.hid (show Kp N w W0 by rw [← hW]; (repeat' (first | with_reducible exact Kp.refl _ _ | with_reducible apply Kp.alloc | with_reducible apply Kp.drew | (with_reducible refine Kp.put ?_ ?_ ?_ _; rotate_left; (focus (first | omega | (simp; done) | (simp; omega))); rotate_left) | (with_reducible refine Bn.new _ _ _ _ ?_ ?_; (focus (first | omega | (simp; done) | (simp; omega))); decide) | with_reducible apply Bn.alloc | with_reducible apply Bn.drew | with_reducible apply Bn.set)))
  have HR_W0 := Lib.hid (HR.out.keep HK_W0.out)
  have HB_W0 := Lib.hid (show Below w.heap.size w W0 by rw [← hW]; (repeat' (first | with_reducible exact Below.refl _ _ | with_reducible exact HB.out | (with_reducible refine Below.alloc ?_ ?_ _; rotate_left; (focus (first | omega | (simp; done) | (simp; omega)))) | with_reducible apply Below.drew | (with_reducible refine Below.setCell ?_ ?_ _; rotate_left; (focus (first | omega | (simp; done) | (simp; omega)))))))
  have HL_W0 := Lib.hid (show Below w.heap.size w W0 by rw [← hW]; (repeat' (first | with_reducible exact Below.refl _ _ | (with_reducible refine Below.alloc ?_ ?_ _; rotate_left; (focus (first | omega | (simp; done) | (simp; omega)))) | with_reducible apply Below.drew | (with_reducible refine Below.setCell ?_ ?_ _; rotate_left; (focus (first | omega | (simp; done) | (simp; omega)))))))
  have HP_W0 := Lib.hid (HP.out.below HL_W0.out)
  have HU_W0 := Lib.hid (HU.out.below HL_W0.out)
  clear HL_W0
  clear hW HK_W0
  clear HR HB hN
  have hN := hN_W0
  have HB := HB_W0
  have hs0 := hs0_W0
  have hl_R := hl_R_W0
  have f_R := f_R_W0
  have HX_R := HX_R_W0
  have k_R_0 := k_R_0_W0
  have k_R_1 := k_R_1_W0
  have k_R_2 := k_R_2_W0
  have HR := HR_W0
  clear hN_W0 HB_W0 hs0_W0 hl_R_W0 f_R_W0 HX_R_W0 k_R_0_W0 k_R_1_W0 k_R_2_W0 HR_W0
  clear HP HU
  have HP := HP_W0
  have HU := HU_W0
  clear HP_W0 HU_W0
  refine (counts_any _ _ _ _ _ _ HU.out h64 hnm).mono ?_
  rintro e w1 ⟨bm, rfl, hbm, hm1, hb⟩
  have HP_w1 := Lib.hid (HP.out.below hb)
  have HU_w1 := Lib.hid (HU.out.below hb)
  have hN_w1 : N ≤ w1.heap.size := Nat.le_trans hN hb.size
  have hs_w1 : W0.heap.size ≤ w1.heap.size := hb.size
  have hs0_w1 : w.heap.size ≤ w1.heap.size := Nat.le_trans hs0 hb.size
  have hl_R_w1 : w.heap.size < w1.heap.size := Nat.lt_of_lt_of_le hl_R hb.size
  have k_R_0_w1 : w1.cell? ⟨w.heap.size, 0, none⟩ = some (.bool s) := (hb.cell (p := ⟨w.heap.size, 0, none⟩) hl_R).trans k_R_0
  have k_R_1_w1 : w1.cell? ⟨w.heap.size, 1, none⟩ = some (.slice a na ca) := (hb.cell (p := ⟨w.heap.size, 1, none⟩) hl_R).trans k_R_1
  have k_R_2_w1 : w1.cell? ⟨w.heap.size, 2, none⟩ = some (.slice d nd cd) := (hb.cell (p := ⟨w.heap.size, 2, none⟩) hl_R).trans k_R_2
  have f_R_w1 : ∀ o, w1.frozen? ⟨w.heap.size, o, none⟩ = false := fun o => (hb.frozen (p := ⟨w.heap.size, o, none⟩) hl_R).trans (f_R o)
  have HX_R_w1 := Lib.hid (HX_R.out.below hb)
  have HR_w1 := Lib.hid (HR.out.below hb)
  have HB_w1 := Lib.hid (HB.out.trans (hb.mono hs0))
  clear hb
  clear hl_R f_R HX_R k_R_0 k_R_1 k_R_2 HR HB hN hs0
  have hN := hN_w1
  have HB := HB_w1
  have hs0 := hs0_w1
  have hl_R := hl_R_w1
  have f_R := f_R_w1
  have HX_R := HX_R_w1
  have k_R_0 := k_R_0_w1
  have k_R_1 := k_R_1_w1
  have k_R_2 := k_R_2_w1
  have HR := HR_w1
  clear hN_w1 HB_w1 hs0_w1 hl_R_w1 f_R_w1 HX_R_w1 k_R_0_w1 k_R_1_w1 k_R_2_w1 HR_w1
  clear HP HU
  have HP := HP_w1
  have HU := HU_w1
  clear HP_w1 HU_w1
  have HM := Lib.hid hm1
  clear hm1
  go_wp2_with fail
  go_loopw [12, 14, 19] (fun out _ i wr => ∃ (k : Nat) (l : List Int), k ≤ n ∧ i = .int .i64 k ∧ fltI id E k = l ∧ Ow w1.heap.size 3 wr out l ∧ Below w1.heap.size w1 wr) (fun _ _ i _ => n - (intOf i).toNat)
  case atStart => exact ⟨0, [], Nat.zero_le _, rfl, rfl, Ow.nil _ _ _, Below.refl _ _⟩
  case round =>
    obtain ⟨k, l, hk, rfl, hl, how, hbel⟩ := hrel
    have HL := Lib.hid hl
    have HOW := Lib.hid how
    have HB0 := HB
    have hsw := hs0
    replace HB := Lib.hid hbel
    replace hs0 := hbel.size
    replace HR := Lib.hid (HR.out.below hbel)
    replace HP := Lib.hid (HP.out.below hbel)
    replace HM := Lib.hid (HM.out.below hbel)
    have hll := fltI_len id E k
    rw [hl] at hll
    replace hN : N ≤ wr.heap.size := Nat.le_trans hN hs0
    clear hl how
    have hl_R' : w.heap.size < wr.heap.size := Nat.lt_of_lt_of_le hl_R hbel.size
    have k_R_0' : wr.cell? ⟨w.heap.size, 0, none⟩ = some (.bool s) := (hbel.cell (p := ⟨w.heap.size, 0, none⟩) hl_R).trans k_R_0
    have k_R_1' : wr.cell? ⟨w.heap.size, 1, none⟩ = some (.slice a na ca) := (hbel.cell (p := ⟨w.heap.size, 1, none⟩) hl_R).trans k_R_1
    have k_R_2' : wr.cell? ⟨w.heap.size, 2, none⟩ = some (.slice d nd cd) := (hbel.cell (p := ⟨w.heap.size, 2, none⟩) hl_R).trans k_R_2
    have f_R' : ∀ o, wr.frozen? ⟨w.heap.size, o, none⟩ = false := fun o => (hbel.frozen (p := ⟨w.heap.size, o, none⟩) hl_R).trans (f_R o)
    have HX_R' := Lib.hid (HX_R.out.below hbel)
    clear hl_R f_R HX_R k_R_0 k_R_1 k_R_2
    have hl_R := hl_R'
    have f_R := f_R'
    have HX_R := HX_R'
    have k_R_0 := k_R_0'
    have k_R_1 := k_R_1'
    have k_R_2 := k_R_2'
    clear hl_R' f_R' HX_R' k_R_0' k_R_1' k_R_2'
    clear hbel
    by_cases hkn : k < n
    · obtain ⟨b, off, rfl, hc⟩ := HP.out.2.2 (by omega)
      obtain ⟨hx64, g0, s1, u2, u3, u4, u5, u6, u7, r8, n8, c8, g1, g2, g3, g4, g5, g6, g7, g8⟩ := hc k hkn
      clear hc
      obtain ⟨x, hx⟩ : ∃ x, id k = x := ⟨_, rfl⟩
      rw [hx] at g0 hx64
      have HX := Lib.hid hx
      obtain ⟨v, hv⟩ : ∃ v, cntN it ct x m = v := ⟨_, rfl⟩
      have HV := Lib.hid (show cntF it ct m x = v from hv)
      have HX64 := Lib.hid hx64
      have hee := HE.out x
      rw [hv] at hee
      have HEE := Lib.hid hee
      have hix0 : (0 : Int) ≤ (k : Int) := by omega
      have hix1 : (k : Int) < (n : Int) := by omega
      clear hx hv hx64 hee
      go_wp2_with (at_lookup; refine wp_look_i _ rfl _ _ rfl mtI bm _ _ rfl (HM.out.below (bel1 _ _)) x v rfl HX64.out HV.out ?_)
      refine calls_name fun W2 hW => ?_
      have HL_W2 := Lib.hid (show Below wr.heap.size wr W2 by rw [← hW]; (repeat' (first | with_reducible exact Below.refl _ _ | (with_reducible refine Below.alloc ?_ ?_ _; rotate_left; (focus (first | omega | (simp; done) | (simp; omega)))) | with_reducible apply Below.drew | (with_reducible refine Below.setCell ?_ ?_ _; rotate_left; (focus (first | omega | (simp; done) | (simp; omega)))))))
      have hN_W2 : N ≤ W2.heap.size := by rw [← hW]; (first | omega | (simp; done) | (simp; omega))
      have hs_W2 : wr.heap.size ≤ W2.heap.size := by rw [← hW]; (first | omega | (simp; done) | (simp; omega))
      have hs0_W2 : w1.heap.size ≤ W2.heap.size := by rw [← hW]; (first | omega | (simp; done) | (simp; omega))
      have hd_R_I : w.heap.size < wr.heap.size := by omega
      have hl_R_W2 : w.heap.size < W2.heap.size := by rw [← hW]; (first | omega | (simp; done) | (simp; omega))
      have k_R_0_W2 : W2.cell? ⟨w.heap.size, 0, none⟩ = some (.bool s) := (HL_W2.out.cell (p := ⟨w.heap.size, 0, none⟩) hl_R).trans k_R_0
      have k_R_1_W2 : W2.cell? ⟨w.heap.size, 1, none⟩ = some (.slice a na ca) := (HL_W2.out.cell (p := ⟨w.heap.size, 1, none⟩) hl_R).trans k_R_1
      have k_R_2_W2 : W2.cell? ⟨w.heap.size, 2, none⟩ = some (.slice d nd cd) := (HL_W2.out.cell (p := ⟨w.heap.size, 2, none⟩) hl_R).trans k_R_2
      have f_R_W2 : ∀ o, W2.frozen? ⟨w.heap.size, o, none⟩ = false := fun o => (HL_W2.out.frozen (p := ⟨w.heap.size, o, none⟩) hl_R).trans (f_R o)
      have HX_R_W2 := Lib.hid (show Bn W2 (w.heap.size) by rw [← hW]; (repeat' (first | with_reducible exact Kp.refl _ _ | with_reducible exact HX_R.out | with_reducible apply Kp.alloc | with_reducible apply Kp.drew | (with_reducible refine Kp.put ?_ ?_ ?_ _; rotate_left; (focus (first | omega | (simp; done) | (simp; omega))); rotate_left) | (with_reducible refine Bn.new _ _ _ _ ?_ ?_; (focus (first | omega | (simp; done) | (simp; omega))); decide) | with_reducible apply Bn.alloc | with_reducible apply Bn.drew | with_reducible apply Bn.set)))
      have hl_I_W2 : wr.heap.size < W2.heap.size := by rw [← hW]; (first | omega | (simp; done) | (simp; omega))
      have k_I_0_W2 : W2.cell? ⟨wr.heap.size, 0, none⟩ = some (.int .i64 x) := by rw [← hW]; (first | (go_simp; done) | (simp; done) | (simp [go_sem]; done) | (simp [go_sem, k_R_0, k_R_1, k_R_2, f_R, hl_R]; done))
      have k_I_1_W2 : W2.cell? ⟨wr.heap.size, 1, none⟩ = some (.string s1) := by rw [← hW]; (first | (go_simp; done) | (simp; done) | (simp [go_sem]; done) | (simp [go_sem, k_R_0, k_R_1, k_R_2, f_R, hl_R]; done))
      have k_I_2_W2 : W2.cell? ⟨wr.heap.size, 2, none⟩ = some (.int .i64 u2) := by rw [← hW]; (first | (go_simp; done) | (simp; done) | (simp [go_sem]; done) | (simp [go_sem, k_R_0, k_R_1, k_R_2, f_R, hl_R]; done))
      have k_I_3_W2 : W2.cell? ⟨wr.heap.size, 3, none⟩ = some (.int .i64 u3) := by rw [← hW]; (first | (go_simp; done) | (simp; done) | (simp [go_sem]; done) | (simp [go_sem, k_R_0, k_R_1, k_R_2, f_R, hl_R]; done))
      have k_I_4_W2 : W2.cell? ⟨wr.heap.size, 4, none⟩ = some (.int .i64 u4) := by rw [← hW]; (first | (go_simp; done) | (simp; done) | (simp [go_sem]; done) | (simp [go_sem, k_R_0, k_R_1, k_R_2, f_R, hl_R]; done))
      have k_I_5_W2 : W2.cell? ⟨wr.heap.size, 5, none⟩ = some (.int .i64 u5) := by rw [← hW]; (first | (go_simp; done) | (simp; done) | (simp [go_sem]; done) | (simp [go_sem, k_R_0, k_R_1, k_R_2, f_R, hl_R]; done))
      have k_I_6_W2 : W2.cell? ⟨wr.heap.size, 6, none⟩ = some (.int .i64 u6) := by rw [← hW]; (first | (go_simp; done) | (simp; done) | (simp [go_sem]; done) | (simp [go_sem, k_R_0, k_R_1, k_R_2, f_R, hl_R]; done))
      have k_I_7_W2 : W2.cell? ⟨wr.heap.size, 7, none⟩ = some (.int .i64 u7) := by rw [← hW]; (first | (go_simp; done) | (simp; done) | (simp [go_sem]; done) | (simp [go_sem, k_R_0, k_R_1, k_R_2, f_R, hl_R]; done))
      have k_I_8_W2 : W2.cell? ⟨wr.heap.size, 8, none⟩ = some (.slice r8 n8 c8) := by rw [← hW]; (first | (go_simp; done) | (simp; done) | (simp [go_sem]; done) | (simp [go_sem, k_R_0, k_R_1, k_R_2, f_R, hl_R]; done))
      have f_I_W2 : ∀ o, W2.frozen? ⟨wr.heap.size, o, none⟩ = false := by intro o; rw [← hW]; (first | (go_simp; done) | (simp; done) | (simp [go_sem]; done) | (simp [go_sem, k_R_0, k_R_1, k_R_2, f_R, hl_R]; done))
      have HX_I_W2 := Lib.hid (show Bn W2 (wr.heap.size) by rw [← hW]; (repeat' (first | with_reducible exact Kp.refl _ _ | with_reducible exact HX_R.out | with_reducible apply Kp.alloc | with_reducible apply Kp.drew | (with_reducible refine Kp.put ?_ ?_ ?_ _; rotate_left; (focus (first | omega | (simp; done) | (simp; omega))); rotate_left) | (with_reducible refine Bn.new _ _ _ _ ?_ ?_; (focus (first | omega | (simp; done) | (simp; omega))); decide) | with_reducible apply Bn.alloc | with_reducible apply Bn.drew | with_reducible apply Bn.set)))
      have HK_W2 := Lib.hid (show Kp N wr W2 by rw [← hW]; (repeat' (first | with_reducible exact Kp.refl _ _ | with_reducible exact HX_R.out | with_reducible apply Kp.alloc | with_reducible apply Kp.drew | (with_reducible refine Kp.put ?_ ?_ ?_ _; rotate_left; (focus (first | omega | (simp; done) | (simp; omega))); rotate_left) | (with_reducible refine Bn.new _ _ _ _ ?_ ?_; (focus (first | omega | (simp; done) | (simp; omega))); decide) | with_reducible apply Bn.alloc | with_reducible apply Bn.drew | with_reducible apply Bn.set)))
      have HR_W2 := Lib.hid (HR.out.keep HK_W2.out)
      have HB_W2 := Lib.hid (show Below w1.heap.size w1 W2 by rw [← hW]; (repeat' (first | with_reducible exact Below.refl _ _ | with_reducible exact HB.out | (with_reducible refine Below.alloc ?_ ?_ _; rotate_left; (focus (first | omega | (simp; done) | (simp; omega)))) | with_reducible apply Below.drew | (with_reducible refine Below.setCell ?_ ?_ _; rotate_left; (focus (first | omega | (simp; done) | (simp; omega)))))))
      have HP_W2 := Lib.hid (HP.out.below HL_W2.out)
      have HM_W2 := Lib.hid (HM.out.below HL_W2.out)
      have HOW_W2 := Lib.hid (HOW.out.below HL_W2.out)
      clear HL_W2
      clear hW HK_W2
      clear hl_R f_R HX_R k_R_0 k_R_1 k_R_2 HR HB hN hs0
      have hN := hN_W2
      have HB := HB_W2
      have hs0 := hs0_W2
      have hl_R := hl_R_W2
      have f_R := f_R_W2
      have HX_R := HX_R_W2
      have k_R_0 := k_R_0_W2
      have k_R_1 := k_R_1_W2
      have k_R_2 := k_R_2_W2
      have hl_I := hl_I_W2
      have f_I := f_I_W2
      have HX_I := HX_I_W2
      have k_I_0 := k_I_0_W2
      have k_I_1 := k_I_1_W2
      have k_I_2 := k_I_2_W2
      have k_I_3 := k_I_3_W2
      have k_I_4 := k_I_4_W2
      have k_I_5 := k_I_5_W2
      have k_I_6 := k_I_6_W2
      have k_I_7 := k_I_7_W2
      have k_I_8 := k_I_8_W2
      have HR := HR_W2
      clear hN_W2 HB_W2 hs0_W2 hl_R_W2 f_R_W2 HX_R_W2 k_R_0_W2 k_R_1_W2 k_R_2_W2 hl_I_W2 f_I_W2 HX_I_W2 k_I_0_W2 k_I_1_W2 k_I_2_W2 k_I_3_W2 k_I_4_W2 k_I_5_W2 k_I_6_W2 k_I_7_W2 k_I_8_W2 HR_W2
      clear HP HM HOW
      have HP := HP_W2
      have HM := HM_W2
      have HOW := HOW_W2
      clear HP_W2 HM_W2 HOW_W2
      refine (elig_any (N := N) v served slack s a d na ca nd cd L q _ hN HR.out hL).mono ?_
      rw [HEE.out]
      rintro e wz ⟨rfl, hb⟩
      have HP_wz := Lib.hid (HP.out.below hb)
      have HM_wz := Lib.hid (HM.out.below hb)
      have HOW_wz := Lib.hid (HOW.out.below hb)
      have hN_wz : N ≤ wz.heap.size := Nat.le_trans hN hb.size
      have hs_wz : W2.heap.size ≤ wz.heap.size := hb.size
      have hs0_wz : w1.heap.size ≤ wz.heap.size := Nat.le_trans hs0 hb.size
      have hl_R_wz : w.heap.size < wz.heap.size := Nat.lt_of_lt_of_le hl_R hb.size
      have k_R_0_wz : wz.cell? ⟨w.heap.size, 0, none⟩ = some (.bool s) := (hb.cell (p := ⟨w.heap.size, 0, none⟩) hl_R).trans k_R_0
      have k_R_1_wz : wz.cell? ⟨w.heap.size, 1, none⟩ = some (.slice a na ca) := (hb.cell (p := ⟨w.heap.size, 1, none⟩) hl_R).trans k_R_1
      have k_R_2_wz : wz.cell? ⟨w.heap.size, 2, none⟩ = some (.slice d nd cd) := (hb.cell (p := ⟨w.heap.size, 2, none⟩) hl_R).trans k_R_2
      have f_R_wz : ∀ o, wz.frozen? ⟨w.heap.size, o, none⟩ = false := fun o => (hb.frozen (p := ⟨w.heap.size, o, none⟩) hl_R).trans (f_R o)
      have HX_R_wz := Lib.hid (HX_R.out.below hb)
      have hl_I_wz : wr.heap.size < wz.heap.size := Nat.lt_of_lt_of_le hl_I hb.size
      have k_I_0_wz : wz.cell? ⟨wr.heap.size, 0, none⟩ = some (.int .i64 x) := (hb.cell (p := ⟨wr.heap.size, 0, none⟩) hl_I).trans k_I_0
      have k_I_1_wz : wz.cell? ⟨wr.heap.size, 1, none⟩ = some (.string s1) := (hb.cell (p := ⟨wr.heap.size, 1, none⟩) hl_I).trans k_I_1
      have k_I_2_wz : wz.cell? ⟨wr.heap.size, 2, none⟩ = some (.int .i64 u2) := (hb.cell (p := ⟨wr.heap.size, 2, none⟩) hl_I).trans k_I_2
      have k_I_3_wz : wz.cell? ⟨wr.heap.size, 3, none⟩ = some (.int .i64 u3) := (hb.cell (p := ⟨wr.heap.size, 3, none⟩) hl_I).trans k_I_3
      have k_I_4_wz : wz.cell? ⟨wr.heap.size, 4, none⟩ = some (.int .i64 u4) := (hb.cell (p := ⟨wr.heap.size, 4, none⟩) hl_I).trans k_I_4
      have k_I_5_wz : wz.cell? ⟨wr.heap.size, 5, none⟩ = some (.int .i64 u5) := (hb.cell (p := ⟨wr.heap.size, 5, none⟩) hl_I).trans k_I_5
      have k_I_6_wz : wz.cell? ⟨wr.heap.size, 6, none⟩ = some (.int .i64 u6) := (hb.cell (p := ⟨wr.heap.size, 6, none⟩) hl_I).trans k_I_6
      have k_I_7_wz : wz.cell? ⟨wr.heap.size, 7, none⟩ = some (.int .i64 u7) := (hb.cell (p := ⟨wr.heap.size, 7, none⟩) hl_I).trans k_I_7
      have k_I_8_wz : wz.cell? ⟨wr.heap.size, 8, none⟩ = some (.slice r8 n8 c8) := (hb.cell (p := ⟨wr.heap.size, 8, none⟩) hl_I).trans k_I_8
      have f_I_wz : ∀ o, wz.frozen? ⟨wr.heap.size, o, none⟩ = false := fun o => (hb.frozen (p := ⟨wr.heap.size, o, none⟩) hl_I).trans (f_I o)
      have HX_I_wz := Lib.hid (HX_I.out.below hb)
      have HR_wz := Lib.hid (HR.out.below hb)
      have HB_wz := Lib.hid (HB.out.trans (hb.mono hs0))
      clear hb
      clear hl_R f_R HX_R k_R_0 k_R_1 k_R_2 hl_I f_I HX_I k_I_0 k_I_1 k_I_2 k_I_3 k_I_4 k_I_5 k_I_6 k_I_7 k_I_8 HR HB hN hs0
      have hN := hN_wz
      have HB := HB_wz
      have hs0 := hs0_wz
      have hl_R := hl_R_wz
      have f_R := f_R_wz
      have HX_R := HX_R_wz
      have k_R_0 := k_R_0_wz
      have k_R_1 := k_R_1_wz
      have k_R_2 := k_R_2_wz
      have hl_I := hl_I_wz
      have f_I := f_I_wz
      have HX_I := HX_I_wz
      have k_I_0 := k_I_0_wz
      have k_I_1 := k_I_1_wz
      have k_I_2 := k_I_2_wz
      have k_I_3 := k_I_3_wz
      have k_I_4 := k_I_4_wz
      have k_I_5 := k_I_5_wz
      have k_I_6 := k_I_6_wz
      have k_I_7 := k_I_7_wz
      have k_I_8 := k_I_8_wz
      have HR := HR_wz
      clear hN_wz HB_wz hs0_wz hl_R_wz f_R_wz HX_R_wz k_R_0_wz k_R_1_wz k_R_2_wz hl_I_wz f_I_wz HX_I_wz k_I_0_wz k_I_1_wz k_I_2_wz k_I_3_wz k_I_4_wz k_I_5_wz k_I_6_wz k_I_7_wz k_I_8_wz HR_wz
      clear HP HM HOW
      have HP := HP_wz
      have HM := HM_wz
      have HOW := HOW_wz
      clear HP_wz HM_wz HOW_wz
      obtain ⟨eb, heb⟩ : ∃ b, E x = b := ⟨_, rfl⟩
      rw [heb]
      have HEB := Lib.hid heb
      clear heb
      rcases Bool.eq_false_or_eq_true eb with he | he
      · subst he
        go_wp2_with (at_builtin; refine wpList_append_own_at _ rfl (.tmp 31) (.tmp 34) 23 rfl w1.heap.size 3 i0 (.int .i64 0) 1 8 underIntsE hi hz0 hz1 hz2 rfl (by decide) _ l.length (l.map (Value.int .i64)) rfl (World.ownsRow.alloc HOW.out _) ⟨wz.heap.size, 0, none⟩ 1 1 [.int .i64 x] (by first | rfl | simp) rfl (by intro j u hj; rcases j with _ | j; (· simp at hj; subst hj; simp [Addr.add]); (· simp at hj)) (by intro u hu; simp at hu; subst hu; rfl) (by unfold maxLen; omega) (by omega) (by simp; omega) ?_; intro v2 w2 hm2 hg2 _ hat2; have HO2 := Lib.hid (Ow.push hm2); have HB5 := Lib.hid ((HB.out.alloc hs0 _).grown hg2 (by simp; omega) (fun k hk => (HOW.out.lt k hk).1)); clear hm2 hg2 hat2)
        go_roundw
        case rel => exact ⟨k + 1, l ++ [x], by omega, by go_num, by rw [fltI_yes HX.out HEB.out, HL.out], HO2.out, HB5.out⟩
        case measure => simp [intOf]; omega
      · subst he
        go_wp2_with fail
        go_roundw
        case rel => exact ⟨k + 1, l, by omega, by go_num, by rw [fltI_no HX.out HEB.out, HL.out], HOW.out, HB.out⟩
        case measure => simp [intOf]; omega
    · obtain rfl : k = n := by omega
      go_wp2_with fail
      refine calls_name fun W2 hW => ?_
      subst hW
      refine (sort_own _ l _ HOW.out (by omega)).mono ?_
      rintro e w2 ⟨rfl, ho2, hg2⟩
      have HB6 := Lib.hid (HB.out.grown hg2 hs0 (fun k hk => (HOW.out.lt k hk).1))
      have HO2 := Lib.hid ho2
      have hs2 := HB6.out.size
      clear ho2 hg2
      go_wp2_with fail
      refine (compact_own _ _ _ HO2.out).mono ?_
      rintro e w3 ⟨v3, rfl, hv3, ho3, hg3⟩
      have HB7 := Lib.hid (HB6.out.grown hg3 hs2 (fun k hk => (HO2.out.lt k hk).1))
      have hil := ho3.il
      have HIL := Lib.hid (show Il w3 v3 (rise l) from hil)
      clear ho3 hg3 hil hv3
      go_wp2_with fail
      go_ret
      exact ⟨_, rfl, by rw [HL.out]; exact HIL.out, HB0.out.trans (HB7.out.mono hsw)⟩
theorem block_nameM2 {P : Program} {Q : Exit → Act → World → Prop} {c : Code} {a : Act} {w : World} (h : ∀ W, w = W → c.wp P Q a W) : c.wp P Q a w := h w rfl
def FilJ (gb off k n pc m uc _gR : Nat) (x v served slack : Int) (ua : Option Addr) (s : Bool) (a d : Option Addr) (na ca nd cd : Nat) (eb : Bool) (W : World) (z0 : Act) (L : Nat → Bool) (z1 : Act) (w : World) : Prop :=
  ∃ u19 u20 u21 u22 u23 u24 u25 u26 u27 u28 u29, z1 = (((((((((((z0.put (some 19) u19).put (some 20) u20).put (some 21) u21).put (some 22) u22).put (some 23) u23).put (some 24) u24).put (some 25) u25).put (some 26) u26).put (some 27) u27).put (some 28) u28).put (some 29) u29) ∧ Since W w ∧ (L 0 = true → u19 = .slice ua m uc) ∧ (L 1 = true → u20 = .slice (some ⟨gb, off, none⟩) n pc) ∧ (L 2 = true → u21 = .int .i64 (k : Nat)) ∧ (L 3 = true → u22 = .pointer (some ⟨gb, off + k * 9, none⟩)) ∧ (L 4 = true → u23 = .pointer (some ⟨gb, off + k * 9, none⟩)) ∧ (L 5 = true → u24 = .int .i64 x) ∧ (L 6 = true → u25 = .int .i64 v) ∧ (L 7 = true → u26 = .int .i64 served) ∧ (L 8 = true → u27 = .agg #[.bool s, .slice a na ca, .slice d nd cd]) ∧ (L 9 = true → u28 = .int .i64 slack) ∧ (L 10 = true → u29 = .bool eb)


set_option maxRecDepth 20000 in
set_option maxHeartbeats 4000000 in
theorem xfilter_any {N : Nat} (pa : Option Addr) (n pc : Nat) (id : Nat → Int) (ua : Option Addr) (m uc : Nat) (it ct : Nat → Int) (served slack : Int) (s : Bool) (a d : Option Addr) (na ca nd cd L : Nat) (q : Rat) (E : Int → Bool) (w : World) (hN : N ≤ w.heap.size) (hp : Pl w pa n pc id) (hu : Us w ua m uc it ct) (_h64 : ∀ i, i < m → W64 (it i)) (hr : Rt N w s a na ca d nd cd q L) (hL : L ≤ 1073741824) (hn : n ≤ 1099511627776) (hm : m ≤ 1099511627776) (hE : ∀ x, elig (cntN it ct x m) served q slack = E x) :
    Calls Try.prog 11 #[.slice pa n pc, .slice ua m uc, .int .i64 served, .agg #[.bool s, .slice a na ca, .slice d nd cd], .int .i64 slack] w fun e w' => ∃ v, e = .returned v ∧ Il w' v (rise (fltI id E n)) ∧ Below w.heap.size w w' := by
  have HP := Lib.hid hp
  have HU := Lib.hid hu
  have HR := Lib.hid hr
  have HE := Lib.hid hE
  have b1 := hp.1
  have b2 := hp.2.1
  have b3 := hu.1
  have b4 := hu.2.1
  have hnm : m < maxLen := by unfold maxLen; omega
  unfold maxLen at b2 b4
  clear hp hu hr hE
  have HB := Lib.hid (Below.refl w.heap.size w)
  obtain ⟨i0, hi, hzz⟩ := Option.map_eq_some_iff.1 infoIntE
  simp only [Prod.mk.injEq] at hzz
  obtain ⟨hz0, hz1, hz2⟩ := hzz
  go_enter Try.func11, Try.ntmps11
  go_upto_region 2 with fail
  refine block_nameM2 fun w1 hW => ?_
  have hN_w1 : N ≤ w1.heap.size := by rw [← hW]; (first | omega | (simp; done) | (simp; omega))
  have hs_w1 : w.heap.size ≤ w1.heap.size := by rw [← hW]; (first | omega | (simp; done) | (simp; omega))
  have hs0_w1 : w.heap.size ≤ w1.heap.size := by rw [← hW]; (first | omega | (simp; done) | (simp; omega))
  have hl_R_w1 : w.heap.size < w1.heap.size := by rw [← hW]; (first | omega | (simp; done) | (simp; omega))
  have k_R_0_w1 : w1.cell? ⟨w.heap.size, 0, none⟩ = some (.bool s) := by rw [← hW]; (first | (go_simp; done) | (simp; done) | (simp [go_sem]; done) | (simp [go_sem]; done))
  have k_R_1_w1 : w1.cell? ⟨w.heap.size, 1, none⟩ = some (.slice a na ca) := by rw [← hW]; (first | (go_simp; done) | (simp; done) | (simp [go_sem]; done) | (simp [go_sem]; done))
  have k_R_2_w1 : w1.cell? ⟨w.heap.size, 2, none⟩ = some (.slice d nd cd) := by rw [← hW]; (first | (go_simp; done) | (simp; done) | (simp [go_sem]; done) | (simp [go_sem]; done))
  have f_R_w1 : ∀ o, w1.frozen? ⟨w.heap.size, o, none⟩ = false := by intro o; rw [← hW]; (first | (go_simp; done) | (simp; done) | (simp [go_sem]; done) | (simp [go_sem]; done))
  have HX_R_w1 := Lib.hid (show Bn w1 (w.heap.size) by rw [← hW]; (repeat' (first | with_reducible exact Kp.refl _ _ | with_reducible apply Kp.alloc | with_reducible apply Kp.drew | (with_reducible refine Kp.put ?_ ?_ ?_ _; rotate_left; (focus (first | omega | (simp; done) | (simp; omega))); rotate_left) | (with_reducible refine Bn.new _ _ _ _ ?_ ?_; (focus (first | omega | (simp; done) | (simp; omega))); decide) | with_reducible apply Bn.alloc | with_reducible apply Bn.drew | with_reducible apply Bn.set)))
  have HK_w1 := Lib.hid (show Kp N w w1 by rw [← hW]; (repeat' (first | with_reducible exact Kp.refl _ _ | with_reducible apply Kp.alloc | with_reducible apply Kp.drew | (with_reducible refine Kp.put ?_ ?_ ?_ _; rotate_left; (focus (first | omega | (simp; done) | (simp; omega))); rotate_left) | (with_reducible refine Bn.new _ _ _ _ ?_ ?_; (focus (first | omega | (simp; done) | (simp; omega))); decide) | with_reducible apply Bn.alloc | with_reducible apply Bn.drew | with_reducible apply Bn.set)))
  have HR_w1 := Lib.hid (HR.out.keep HK_w1.out)
  have HB_w1 := Lib.hid (show Below w.heap.size w w1 by rw [← hW]; (repeat' (first | with_reducible exact Below.refl _ _ | with_reducible exact HB.out | (with_reducible refine Below.alloc ?_ ?_ _; rotate_left; (focus (first | omega | (simp; done) | (simp; omega)))) | with_reducible apply Below.drew | (with_reducible refine Below.setCell ?_ ?_ _; rotate_left; (focus (first | omega | (simp; done) | (simp; omega)))))))
  have HL_w1 := Lib.hid (show Below w.heap.size w w1 by rw [← hW]; (repeat' (first | with_reducible exact Below.refl _ _ | (with_reducible refine Below.alloc ?_ ?_ _; rotate_left; (focus (first | omega | (simp; done) | (simp; omega)))) | with_reducible apply Below.drew | (with_reducible refine Below.setCell ?_ ?_ _; rotate_left; (focus (first | omega | (simp; done) | (simp; omega)))))))
  have HP_w1 := Lib.hid (HP.out.below HL_w1.out)
  have HU_w1 := Lib.hid (HU.out.below HL_w1.out)
  clear HL_w1
  clear hW HK_w1
  clear HR HB hN
  have hN := hN_w1
  have HB := HB_w1
  have hs0 := hs0_w1
  have hl_R := hl_R_w1
  have f_R := f_R_w1
  have HX_R := HX_R_w1
  have k_R_0 := k_R_0_w1
  have k_R_1 := k_R_1_w1
  have k_R_2 := k_R_2_w1
  have HR := HR_w1
  clear hN_w1 HB_w1 hs0_w1 hl_R_w1 f_R_w1 HX_R_w1 k_R_0_w1 k_R_1_w1 k_R_2_w1 HR_w1
  clear HP HU
  have HP := HP_w1
  have HU := HU_w1
  clear HP_w1 HU_w1
  go_wp2_with fail
  go_loopw [11, 12] (fun out i wr => ∃ (k : Nat) (l : List Int), k ≤ n ∧ i = .int .i64 k ∧ fltI id E k = l ∧ Ow w1.heap.size 3 wr out l ∧ Below w1.heap.size w1 wr) (fun _ i _ => n - (intOf i).toNat)
  case atStart => exact ⟨0, [], Nat.zero_le _, rfl, rfl, Ow.nil _ _ _, Below.refl _ _⟩
  case round =>
    obtain ⟨k, l, hk, rfl, hl, how, hbel⟩ := hrel
    have HL := Lib.hid hl
    have HOW := Lib.hid how
    have HB0 := HB
    have hsw := hs0
    replace HB := Lib.hid hbel
    replace hs0 := hbel.size
    replace HR := Lib.hid (HR.out.below hbel)
    replace HP := Lib.hid (HP.out.below hbel)
    replace HU := Lib.hid (HU.out.below hbel)
    have hll := fltI_len id E k
    rw [hl] at hll
    replace hN : N ≤ wr.heap.size := Nat.le_trans hN hs0
    clear hl how
    have hl_R' : w.heap.size < wr.heap.size := Nat.lt_of_lt_of_le hl_R hbel.size
    have k_R_0' : wr.cell? ⟨w.heap.size, 0, none⟩ = some (.bool s) := (hbel.cell (p := ⟨w.heap.size, 0, none⟩) hl_R).trans k_R_0
    have k_R_1' : wr.cell? ⟨w.heap.size, 1, none⟩ = some (.slice a na ca) := (hbel.cell (p := ⟨w.heap.size, 1, none⟩) hl_R).trans k_R_1
    have k_R_2' : wr.cell? ⟨w.heap.size, 2, none⟩ = some (.slice d nd cd) := (hbel.cell (p := ⟨w.heap.size, 2, none⟩) hl_R).trans k_R_2
    have f_R' : ∀ o, wr.frozen? ⟨w.heap.size, o, none⟩ = false := fun o => (hbel.frozen (p := ⟨w.heap.size, o, none⟩) hl_R).trans (f_R o)
    have HX_R' := Lib.hid (HX_R.out.below hbel)
    clear hl_R f_R HX_R k_R_0 k_R_1 k_R_2
    have hl_R := hl_R'
    have f_R := f_R'
    have HX_R := HX_R'
    have k_R_0 := k_R_0'
    have k_R_1 := k_R_1'
    have k_R_2 := k_R_2'
    clear hl_R' f_R' HX_R' k_R_0' k_R_1' k_R_2'
    clear hbel
    by_cases hkn : k < n
    · obtain ⟨b, off, rfl, hc⟩ := HP.out.2.2 (by omega)
      obtain ⟨hx64, g0, s1, u2, u3, u4, u5, u6, u7, r8, n8, c8, g1, g2, g3, g4, g5, g6, g7, g8⟩ := hc k hkn
      clear hc
      obtain ⟨x, hx⟩ : ∃ x, id k = x := ⟨_, rfl⟩
      rw [hx] at g0 hx64
      have HX := Lib.hid hx
      obtain ⟨v, hv⟩ : ∃ v, cntN it ct x m = v := ⟨_, rfl⟩
      have HV := Lib.hid hv
      have hee := HE.out x
      rw [hv] at hee
      obtain ⟨eb, heb⟩ : ∃ b, E x = b := ⟨_, rfl⟩
      rw [heb] at hee
      have HEE := Lib.hid hee
      have HEB := Lib.hid heb
      have hix0 : (0 : Int) ≤ (k : Int) := by omega
      have hix1 : (k : Int) < (n : Int) := by omega
      clear hx hv hx64 hee heb g1 g2 g3 g4 g5 g6 g7 g8
      go_wp2_with fail
      refine region_name fun W2 hW => ?_
      have HL_W2 := Lib.hid (show Below wr.heap.size wr W2 by rw [← hW]; (repeat' (first | with_reducible exact Below.refl _ _ | (with_reducible refine Below.alloc ?_ ?_ _; rotate_left; (focus (first | omega | (simp; done) | (simp; omega)))) | with_reducible apply Below.drew | (with_reducible refine Below.setCell ?_ ?_ _; rotate_left; (focus (first | omega | (simp; done) | (simp; omega)))))))
      have hN_W2 : N ≤ W2.heap.size := by rw [← hW]; (first | omega | (simp; done) | (simp; omega))
      have hs_W2 : wr.heap.size ≤ W2.heap.size := by rw [← hW]; (first | omega | (simp; done) | (simp; omega))
      have hs0_W2 : w1.heap.size ≤ W2.heap.size := by rw [← hW]; (first | omega | (simp; done) | (simp; omega))
      have hl_R_W2 : w.heap.size < W2.heap.size := by rw [← hW]; (first | omega | (simp; done) | (simp; omega))
      have k_R_0_W2 : W2.cell? ⟨w.heap.size, 0, none⟩ = some (.bool s) := (HL_W2.out.cell (p := ⟨w.heap.size, 0, none⟩) hl_R).trans k_R_0
      have k_R_1_W2 : W2.cell? ⟨w.heap.size, 1, none⟩ = some (.slice a na ca) := (HL_W2.out.cell (p := ⟨w.heap.size, 1, none⟩) hl_R).trans k_R_1
      have k_R_2_W2 : W2.cell? ⟨w.heap.size, 2, none⟩ = some (.slice d nd cd) := (HL_W2.out.cell (p := ⟨w.heap.size, 2, none⟩) hl_R).trans k_R_2
      have f_R_W2 : ∀ o, W2.frozen? ⟨w.heap.size, o, none⟩ = false := fun o => (HL_W2.out.frozen (p := ⟨w.heap.size, o, none⟩) hl_R).trans (f_R o)
      have HX_R_W2 := Lib.hid (show Bn W2 (w.heap.size) by rw [← hW]; (repeat' (first | with_reducible exact Kp.refl _ _ | with_reducible exact HX_R.out | with_reducible apply Kp.alloc | with_reducible apply Kp.drew | (with_reducible refine Kp.put ?_ ?_ ?_ _; rotate_left; (focus (first | omega | (simp; done) | (simp; omega))); rotate_left) | (with_reducible refine Bn.new _ _ _ _ ?_ ?_; (focus (first | omega | (simp; done) | (simp; omega))); decide) | with_reducible apply Bn.alloc | with_reducible apply Bn.drew | with_reducible apply Bn.set)))
      have HK_W2 := Lib.hid (show Kp N wr W2 by rw [← hW]; (repeat' (first | with_reducible exact Kp.refl _ _ | with_reducible exact HX_R.out | with_reducible apply Kp.alloc | with_reducible apply Kp.drew | (with_reducible refine Kp.put ?_ ?_ ?_ _; rotate_left; (focus (first | omega | (simp; done) | (simp; omega))); rotate_left) | (with_reducible refine Bn.new _ _ _ _ ?_ ?_; (focus (first | omega | (simp; done) | (simp; omega))); decide) | with_reducible apply Bn.alloc | with_reducible apply Bn.drew | with_reducible apply Bn.set)))
      have HR_W2 := Lib.hid (HR.out.keep HK_W2.out)
      have HB_W2 := Lib.hid (show Below w1.heap.size w1 W2 by rw [← hW]; (repeat' (first | with_reducible exact Below.refl _ _ | with_reducible exact HB.out | (with_reducible refine Below.alloc ?_ ?_ _; rotate_left; (focus (first | omega | (simp; done) | (simp; omega)))) | with_reducible apply Below.drew | (with_reducible refine Below.setCell ?_ ?_ _; rotate_left; (focus (first | omega | (simp; done) | (simp; omega)))))))
      rw [hW] at g0
      have HP_W2 := Lib.hid (HP.out.below HL_W2.out)
      have HU_W2 := Lib.hid (HU.out.below HL_W2.out)
      have HOW_W2 := Lib.hid (HOW.out.below HL_W2.out)
      clear HL_W2
      clear hW HK_W2
      clear hl_R f_R HX_R k_R_0 k_R_1 k_R_2 HR HB hN hs0
      have hN := hN_W2
      have HB := HB_W2
      have hs0 := hs0_W2
      have hl_R := hl_R_W2
      have f_R := f_R_W2
      have HX_R := HX_R_W2
      have k_R_0 := k_R_0_W2
      have k_R_1 := k_R_1_W2
      have k_R_2 := k_R_2_W2
      have HR := HR_W2
      clear hN_W2 HB_W2 hs0_W2 hl_R_W2 f_R_W2 HX_R_W2 k_R_0_W2 k_R_1_W2 k_R_2_W2 HR_W2
      clear HP HU HOW
      have HP := HP_W2
      have HU := HU_W2
      have HOW := HOW_W2
      clear HP_W2 HU_W2 HOW_W2
      refine region_inv2 (by kernel_rfl) (FilJ b off k n pc m uc w.heap.size x v served slack ua s a d na ca nd cd eb (W2)) ?_ ?_ ?_ ?_
      · exact ⟨u19, u20, u21, u22, u23, u24, u25, u26, u27, u28, u29, by simp only [Act.put, List.setIfInBounds_toArray, List.set_cons_zero, List.set_cons_succ], Since.drawn _, (fun h => by cases h), (fun h => by cases h), (fun h => by cases h), (fun h => by cases h), (fun h => by cases h), (fun h => by cases h), (fun h => by cases h), (fun h => by cases h), (fun h => by cases h), (fun h => by cases h), (fun h => by cases h)⟩
      · exact acyc_spec (by kernel_rfl)
      · intro Ls a0 wq i o ho hLi hafter hJ
        obtain ⟨u19, u20, u21, u22, u23, u24, u25, u26, u27, u28, u29, rfl, hS, p0, p1, p2, p3, p4, p5, p6, p7, p8, p9, p10⟩ := hJ
        have hi : i < 11 := (Array.getElem?_eq_some_iff.1 ho).1
        obtain rfl | rfl | rfl | rfl | rfl | rfl | rfl | rfl | rfl | rfl | rfl : i = 0 ∨ i = 1 ∨ i = 2 ∨ i = 3 ∨ i = 4 ∨ i = 5 ∨ i = 6 ∨ i = 7 ∨ i = 8 ∨ i = 9 ∨ i = 10 := by omega
        · simp only [List.getElem?_toArray, List.getElem?_cons_zero, Option.some.injEq] at ho
          subst ho
          have P0 := Lib.hid p0
          have P1 := Lib.hid p1
          have P2 := Lib.hid p2
          have P3 := Lib.hid p3
          have P4 := Lib.hid p4
          have P5 := Lib.hid p5
          have P6 := Lib.hid p6
          have P7 := Lib.hid p7
          have P8 := Lib.hid p8
          have P9 := Lib.hid p9
          have P10 := Lib.hid p10
          have HS := Lib.hid hS
          clear hS hLi hafter p0 p1 p2 p3 p4 p5 p6 p7 p8 p9 p10
          simp only [Act.put, List.setIfInBounds_toArray, List.set_cons_zero, List.set_cons_succ]
          go_wp2_with fail
          exact ⟨.slice ua m uc, u20, u21, u22, u23, u24, u25, u26, u27, u28, u29, by simp only [Act.put, List.setIfInBounds_toArray, List.set_cons_zero, List.set_cons_succ], HS.out, (fun _ => rfl), (fun h => by first | rfl | exact P1.out (by simpa using h)), (fun h => by first | rfl | exact P2.out (by simpa using h)), (fun h => by first | rfl | exact P3.out (by simpa using h)), (fun h => by first | rfl | exact P4.out (by simpa using h)), (fun h => by first | rfl | exact P5.out (by simpa using h)), (fun h => by first | rfl | exact P6.out (by simpa using h)), (fun h => by first | rfl | exact P7.out (by simpa using h)), (fun h => by first | rfl | exact P8.out (by simpa using h)), (fun h => by first | rfl | exact P9.out (by simpa using h)), (fun h => by first | rfl | exact P10.out (by simpa using h))⟩
        · simp only [List.getElem?_toArray, List.getElem?_cons_zero, List.getElem?_cons_succ, Option.some.injEq] at ho
          subst ho
          have P0 := Lib.hid p0
          have P1 := Lib.hid p1
          have P2 := Lib.hid p2
          have P3 := Lib.hid p3
          have P4 := Lib.hid p4
          have P5 := Lib.hid p5
          have P6 := Lib.hid p6
          have P7 := Lib.hid p7
          have P8 := Lib.hid p8
          have P9 := Lib.hid p9
          have P10 := Lib.hid p10
          have HS := Lib.hid hS
          clear hS hLi hafter p0 p1 p2 p3 p4 p5 p6 p7 p8 p9 p10
          simp only [Act.put, List.setIfInBounds_toArray, List.set_cons_zero, List.set_cons_succ]
          go_wp2_with fail
          exact ⟨u19, .slice (some ⟨b, off, none⟩) n pc, u21, u22, u23, u24, u25, u26, u27, u28, u29, by simp only [Act.put, List.setIfInBounds_toArray, List.set_cons_zero, List.set_cons_succ], HS.out, (fun h => by first | rfl | exact P0.out (by simpa using h)), (fun _ => rfl), (fun h => by first | rfl | exact P2.out (by simpa using h)), (fun h => by first | rfl | exact P3.out (by simpa using h)), (fun h => by first | rfl | exact P4.out (by simpa using h)), (fun h => by first | rfl | exact P5.out (by simpa using h)), (fun h => by first | rfl | exact P6.out (by simpa using h)), (fun h => by first | rfl | exact P7.out (by simpa using h)), (fun h => by first | rfl | exact P8.out (by simpa using h)), (fun h => by first | rfl | exact P9.out (by simpa using h)), (fun h => by first | rfl | exact P10.out (by simpa using h))⟩
        · simp only [List.getElem?_toArray, List.getElem?_cons_zero, List.getElem?_cons_succ, Option.some.injEq] at ho
          subst ho
          have P0 := Lib.hid p0
          have P1 := Lib.hid p1
          have P2 := Lib.hid p2
          have P3 := Lib.hid p3
          have P4 := Lib.hid p4
          have P5 := Lib.hid p5
          have P6 := Lib.hid p6
          have P7 := Lib.hid p7
          have P8 := Lib.hid p8
          have P9 := Lib.hid p9
          have P10 := Lib.hid p10
          have HS := Lib.hid hS
          clear hS hLi hafter p0 p1 p2 p3 p4 p5 p6 p7 p8 p9 p10
          simp only [Act.put, List.setIfInBounds_toArray, List.set_cons_zero, List.set_cons_succ]
          go_wp2_with fail
          exact ⟨u19, u20, .int .i64 (k : Nat), u22, u23, u24, u25, u26, u27, u28, u29, by simp only [Act.put, List.setIfInBounds_toArray, List.set_cons_zero, List.set_cons_succ], HS.out, (fun h => by first | rfl | exact P0.out (by simpa using h)), (fun h => by first | rfl | exact P1.out (by simpa using h)), (fun _ => rfl), (fun h => by first | rfl | exact P3.out (by simpa using h)), (fun h => by first | rfl | exact P4.out (by simpa using h)), (fun h => by first | rfl | exact P5.out (by simpa using h)), (fun h => by first | rfl | exact P6.out (by simpa using h)), (fun h => by first | rfl | exact P7.out (by simpa using h)), (fun h => by first | rfl | exact P8.out (by simpa using h)), (fun h => by first | rfl | exact P9.out (by simpa using h)), (fun h => by first | rfl | exact P10.out (by simpa using h))⟩
        · simp only [List.getElem?_toArray, List.getElem?_cons_zero, List.getElem?_cons_succ, Option.some.injEq] at ho
          subst ho
          obtain rfl := p1 (hafter ⟨1, .data⟩ (by simp) rfl)
          obtain rfl := p2 (hafter ⟨2, .data⟩ (by simp) rfl)
          have P0 := Lib.hid p0
          have P1 := Lib.hid p1
          have P2 := Lib.hid p2
          have P3 := Lib.hid p3
          have P4 := Lib.hid p4
          have P5 := Lib.hid p5
          have P6 := Lib.hid p6
          have P7 := Lib.hid p7
          have P8 := Lib.hid p8
          have P9 := Lib.hid p9
          have P10 := Lib.hid p10
          have HS := Lib.hid hS
          clear hS hLi hafter p0 p1 p2 p3 p4 p5 p6 p7 p8 p9 p10
          simp only [Act.put, List.setIfInBounds_toArray, List.set_cons_zero, List.set_cons_succ]
          go_wp2_with fail
          exact ⟨u19, .slice (some ⟨b, off, none⟩) n pc, .int .i64 (k : Nat), .pointer (some ⟨b, off + k * 9, none⟩), u23, u24, u25, u26, u27, u28, u29, by simp only [Act.put, List.setIfInBounds_toArray, List.set_cons_zero, List.set_cons_succ], HS.out, (fun h => by first | rfl | exact P0.out (by simpa using h)), (fun h => by first | rfl | exact P1.out (by simpa using h)), (fun h => by first | rfl | exact P2.out (by simpa using h)), (fun _ => rfl), (fun h => by first | rfl | exact P4.out (by simpa using h)), (fun h => by first | rfl | exact P5.out (by simpa using h)), (fun h => by first | rfl | exact P6.out (by simpa using h)), (fun h => by first | rfl | exact P7.out (by simpa using h)), (fun h => by first | rfl | exact P8.out (by simpa using h)), (fun h => by first | rfl | exact P9.out (by simpa using h)), (fun h => by first | rfl | exact P10.out (by simpa using h))⟩
        · simp only [List.getElem?_toArray, List.getElem?_cons_zero, List.getElem?_cons_succ, Option.some.injEq] at ho
          subst ho
          obtain rfl := p3 (hafter ⟨3, .data⟩ (by simp) rfl)
          have P0 := Lib.hid p0
          have P1 := Lib.hid p1
          have P2 := Lib.hid p2
          have P3 := Lib.hid p3
          have P4 := Lib.hid p4
          have P5 := Lib.hid p5
          have P6 := Lib.hid p6
          have P7 := Lib.hid p7
          have P8 := Lib.hid p8
          have P9 := Lib.hid p9
          have P10 := Lib.hid p10
          have HS := Lib.hid hS
          clear hS hLi hafter p0 p1 p2 p3 p4 p5 p6 p7 p8 p9 p10
          simp only [Act.put, List.setIfInBounds_toArray, List.set_cons_zero, List.set_cons_succ]
          go_wp2_with fail
          exact ⟨u19, u20, u21, .pointer (some ⟨b, off + k * 9, none⟩), .pointer (some ⟨b, off + k * 9, none⟩), u24, u25, u26, u27, u28, u29, by simp only [Act.put, List.setIfInBounds_toArray, List.set_cons_zero, List.set_cons_succ], HS.out, (fun h => by first | rfl | exact P0.out (by simpa using h)), (fun h => by first | rfl | exact P1.out (by simpa using h)), (fun h => by first | rfl | exact P2.out (by simpa using h)), (fun h => by first | rfl | exact P3.out (by simpa using h)), (fun _ => rfl), (fun h => by first | rfl | exact P5.out (by simpa using h)), (fun h => by first | rfl | exact P6.out (by simpa using h)), (fun h => by first | rfl | exact P7.out (by simpa using h)), (fun h => by first | rfl | exact P8.out (by simpa using h)), (fun h => by first | rfl | exact P9.out (by simpa using h)), (fun h => by first | rfl | exact P10.out (by simpa using h))⟩
        · simp only [List.getElem?_toArray, List.getElem?_cons_zero, List.getElem?_cons_succ, Option.some.injEq] at ho
          subst ho
          obtain rfl := p4 (hafter ⟨4, .data⟩ (by simp) rfl)
          have c0 := cell_mono g0 hS.1
          have P0 := Lib.hid p0
          have P1 := Lib.hid p1
          have P2 := Lib.hid p2
          have P3 := Lib.hid p3
          have P4 := Lib.hid p4
          have P5 := Lib.hid p5
          have P6 := Lib.hid p6
          have P7 := Lib.hid p7
          have P8 := Lib.hid p8
          have P9 := Lib.hid p9
          have P10 := Lib.hid p10
          have HS := Lib.hid hS
          clear hS hLi hafter p0 p1 p2 p3 p4 p5 p6 p7 p8 p9 p10
          simp only [Act.put, List.setIfInBounds_toArray, List.set_cons_zero, List.set_cons_succ]
          go_wp2_with fail
          exact ⟨u19, u20, u21, u22, .pointer (some ⟨b, off + k * 9, none⟩), .int .i64 x, u25, u26, u27, u28, u29, by simp only [Act.put, List.setIfInBounds_toArray, List.set_cons_zero, List.set_cons_succ], HS.out, (fun h => by first | rfl | exact P0.out (by simpa using h)), (fun h => by first | rfl | exact P1.out (by simpa using h)), (fun h => by first | rfl | exact P2.out (by simpa using h)), (fun h => by first | rfl | exact P3.out (by simpa using h)), (fun h => by first | rfl | exact P4.out (by simpa using h)), (fun _ => rfl), (fun h => by first | rfl | exact P6.out (by simpa using h)), (fun h => by first | rfl | exact P7.out (by simpa using h)), (fun h => by first | rfl | exact P8.out (by simpa using h)), (fun h => by first | rfl | exact P9.out (by simpa using h)), (fun h => by first | rfl | exact P10.out (by simpa using h))⟩
        · simp only [List.getElem?_toArray, List.getElem?_cons_zero, List.getElem?_cons_succ, Option.some.injEq] at ho
          subst ho
          obtain rfl := p0 (hafter ⟨0, .data⟩ (by simp) rfl)
          obtain rfl := p5 (hafter ⟨5, .data⟩ (by simp) rfl)
          have P0 := Lib.hid p0
          have P1 := Lib.hid p1
          have P2 := Lib.hid p2
          have P3 := Lib.hid p3
          have P4 := Lib.hid p4
          have P5 := Lib.hid p5
          have P6 := Lib.hid p6
          have P7 := Lib.hid p7
          have P8 := Lib.hid p8
          have P9 := Lib.hid p9
          have P10 := Lib.hid p10
          have HS := Lib.hid hS
          clear hS hLi hafter p0 p1 p2 p3 p4 p5 p6 p7 p8 p9 p10
          simp only [Act.put, List.setIfInBounds_toArray, List.set_cons_zero, List.set_cons_succ]
          go_wp2_with fail
          refine (xcount_any _ _ _ it ct x _ (HU.out.below HS.out.1)).mono ?_
          rintro e wn ⟨rfl, rfl⟩
          rw [HV.out]
          go_wp2_with fail
          exact ⟨.slice ua m uc, u20, u21, u22, u23, .int .i64 x, .int .i64 v, u26, u27, u28, u29, by simp only [Act.put, List.setIfInBounds_toArray, List.set_cons_zero, List.set_cons_succ], HS.out, (fun h => by first | rfl | exact P0.out (by simpa using h)), (fun h => by first | rfl | exact P1.out (by simpa using h)), (fun h => by first | rfl | exact P2.out (by simpa using h)), (fun h => by first | rfl | exact P3.out (by simpa using h)), (fun h => by first | rfl | exact P4.out (by simpa using h)), (fun h => by first | rfl | exact P5.out (by simpa using h)), (fun _ => rfl), (fun h => by first | rfl | exact P7.out (by simpa using h)), (fun h => by first | rfl | exact P8.out (by simpa using h)), (fun h => by first | rfl | exact P9.out (by simpa using h)), (fun h => by first | rfl | exact P10.out (by simpa using h))⟩
        · simp only [List.getElem?_toArray, List.getElem?_cons_zero, List.getElem?_cons_succ, Option.some.injEq] at ho
          subst ho
          have P0 := Lib.hid p0
          have P1 := Lib.hid p1
          have P2 := Lib.hid p2
          have P3 := Lib.hid p3
          have P4 := Lib.hid p4
          have P5 := Lib.hid p5
          have P6 := Lib.hid p6
          have P7 := Lib.hid p7
          have P8 := Lib.hid p8
          have P9 := Lib.hid p9
          have P10 := Lib.hid p10
          have HS := Lib.hid hS
          clear hS hLi hafter p0 p1 p2 p3 p4 p5 p6 p7 p8 p9 p10
          simp only [Act.put, List.setIfInBounds_toArray, List.set_cons_zero, List.set_cons_succ]
          go_wp2_with fail
          exact ⟨u19, u20, u21, u22, u23, u24, u25, .int .i64 served, u27, u28, u29, by simp only [Act.put, List.setIfInBounds_toArray, List.set_cons_zero, List.set_cons_succ], HS.out, (fun h => by first | rfl | exact P0.out (by simpa using h)), (fun h => by first | rfl | exact P1.out (by simpa using h)), (fun h => by first | rfl | exact P2.out (by simpa using h)), (fun h => by first | rfl | exact P3.out (by simpa using h)), (fun h => by first | rfl | exact P4.out (by simpa using h)), (fun h => by first | rfl | exact P5.out (by simpa using h)), (fun h => by first | rfl | exact P6.out (by simpa using h)), (fun _ => rfl), (fun h => by first | rfl | exact P8.out (by simpa using h)), (fun h => by first | rfl | exact P9.out (by simpa using h)), (fun h => by first | rfl | exact P10.out (by simpa using h))⟩
        · simp only [List.getElem?_toArray, List.getElem?_cons_zero, List.getElem?_cons_succ, Option.some.injEq] at ho
          subst ho
          have c0 := (hS.1.cell (p := ⟨w.heap.size, 0, none⟩) hl_R).trans k_R_0
          have c1 := (hS.1.cell (p := ⟨w.heap.size, 1, none⟩) hl_R).trans k_R_1
          have c2 := (hS.1.cell (p := ⟨w.heap.size, 2, none⟩) hl_R).trans k_R_2
          have P0 := Lib.hid p0
          have P1 := Lib.hid p1
          have P2 := Lib.hid p2
          have P3 := Lib.hid p3
          have P4 := Lib.hid p4
          have P5 := Lib.hid p5
          have P6 := Lib.hid p6
          have P7 := Lib.hid p7
          have P8 := Lib.hid p8
          have P9 := Lib.hid p9
          have P10 := Lib.hid p10
          have HS := Lib.hid hS
          clear hS hLi hafter p0 p1 p2 p3 p4 p5 p6 p7 p8 p9 p10
          simp only [Act.put, List.setIfInBounds_toArray, List.set_cons_zero, List.set_cons_succ]
          go_wp2_with fail
          exact ⟨u19, u20, u21, u22, u23, u24, u25, u26, .agg #[.bool s, .slice a na ca, .slice d nd cd], u28, u29, by simp only [Act.put, List.setIfInBounds_toArray, List.set_cons_zero, List.set_cons_succ], HS.out, (fun h => by first | rfl | exact P0.out (by simpa using h)), (fun h => by first | rfl | exact P1.out (by simpa using h)), (fun h => by first | rfl | exact P2.out (by simpa using h)), (fun h => by first | rfl | exact P3.out (by simpa using h)), (fun h => by first | rfl | exact P4.out (by simpa using h)), (fun h => by first | rfl | exact P5.out (by simpa using h)), (fun h => by first | rfl | exact P6.out (by simpa using h)), (fun h => by first | rfl | exact P7.out (by simpa using h)), (fun _ => rfl), (fun h => by first | rfl | exact P9.out (by simpa using h)), (fun h => by first | rfl | exact P10.out (by simpa using h))⟩
        · simp only [List.getElem?_toArray, List.getElem?_cons_zero, List.getElem?_cons_succ, Option.some.injEq] at ho
          subst ho
          have P0 := Lib.hid p0
          have P1 := Lib.hid p1
          have P2 := Lib.hid p2
          have P3 := Lib.hid p3
          have P4 := Lib.hid p4
          have P5 := Lib.hid p5
          have P6 := Lib.hid p6
          have P7 := Lib.hid p7
          have P8 := Lib.hid p8
          have P9 := Lib.hid p9
          have P10 := Lib.hid p10
          have HS := Lib.hid hS
          clear hS hLi hafter p0 p1 p2 p3 p4 p5 p6 p7 p8 p9 p10
          simp only [Act.put, List.setIfInBounds_toArray, List.set_cons_zero, List.set_cons_succ]
          go_wp2_with fail
          exact ⟨u19, u20, u21, u22, u23, u24, u25, u26, u27, .int .i64 slack, u29, by simp only [Act.put, List.setIfInBounds_toArray, List.set_cons_zero, List.set_cons_succ], HS.out, (fun h => by first | rfl | exact P0.out (by simpa using h)), (fun h => by first | rfl | exact P1.out (by simpa using h)), (fun h => by first | rfl | exact P2.out (by simpa using h)), (fun h => by first | rfl | exact P3.out (by simpa using h)), (fun h => by first | rfl | exact P4.out (by simpa using h)), (fun h => by first | rfl | exact P5.out (by simpa using h)), (fun h => by first | rfl | exact P6.out (by simpa using h)), (fun h => by first | rfl | exact P7.out (by simpa using h)), (fun h => by first | rfl | exact P8.out (by simpa using h)), (fun _ => rfl), (fun h => by first | rfl | exact P10.out (by simpa using h))⟩
        · simp only [List.getElem?_toArray, List.getElem?_cons_zero, List.getElem?_cons_succ, Option.some.injEq] at ho
          subst ho
          obtain rfl := p6 (hafter ⟨6, .data⟩ (by simp) rfl)
          obtain rfl := p7 (hafter ⟨7, .data⟩ (by simp) rfl)
          obtain rfl := p8 (hafter ⟨8, .data⟩ (by simp) rfl)
          obtain rfl := p9 (hafter ⟨9, .data⟩ (by simp) rfl)
          have P0 := Lib.hid p0
          have P1 := Lib.hid p1
          have P2 := Lib.hid p2
          have P3 := Lib.hid p3
          have P4 := Lib.hid p4
          have P5 := Lib.hid p5
          have P6 := Lib.hid p6
          have P7 := Lib.hid p7
          have P8 := Lib.hid p8
          have P9 := Lib.hid p9
          have P10 := Lib.hid p10
          have HS := Lib.hid hS
          clear hS hLi hafter p0 p1 p2 p3 p4 p5 p6 p7 p8 p9 p10
          simp only [Act.put, List.setIfInBounds_toArray, List.set_cons_zero, List.set_cons_succ]
          go_wp2_with fail
          refine (xelig_any (N := N) v served slack s a d na ca nd cd L q _ (by have := HS.out.2; omega) (HR.out.below HS.out.1) hL).mono ?_
          rw [HEE.out]
          rintro e wn ⟨rfl, hb⟩
          have Hb := Lib.hid hb
          clear hb
          go_wp2_with fail
          exact ⟨u19, u20, u21, u22, u23, u24, .int .i64 v, .int .i64 served, .agg #[.bool s, .slice a na ca, .slice d nd cd], .int .i64 slack, .bool eb, by simp only [Act.put, List.setIfInBounds_toArray, List.set_cons_zero, List.set_cons_succ], HS.out.below Hb.out, (fun h => by first | rfl | exact P0.out (by simpa using h)), (fun h => by first | rfl | exact P1.out (by simpa using h)), (fun h => by first | rfl | exact P2.out (by simpa using h)), (fun h => by first | rfl | exact P3.out (by simpa using h)), (fun h => by first | rfl | exact P4.out (by simpa using h)), (fun h => by first | rfl | exact P5.out (by simpa using h)), (fun h => by first | rfl | exact P6.out (by simpa using h)), (fun h => by first | rfl | exact P7.out (by simpa using h)), (fun h => by first | rfl | exact P8.out (by simpa using h)), (fun h => by first | rfl | exact P9.out (by simpa using h)), (fun _ => rfl)⟩
      · intro Ls a0 wq hall hJ
        obtain ⟨u19, u20, u21, u22, u23, u24, u25, u26, u27, u28, u29, rfl, hS, p0, p1, p2, p3, p4, p5, p6, p7, p8, p9, p10⟩ := hJ
        replace p0 := p0 (hall 0 (by decide))
        replace p1 := p1 (hall 1 (by decide))
        replace p2 := p2 (hall 2 (by decide))
        replace p3 := p3 (hall 3 (by decide))
        replace p4 := p4 (hall 4 (by decide))
        replace p5 := p5 (hall 5 (by decide))
        replace p6 := p6 (hall 6 (by decide))
        replace p7 := p7 (hall 7 (by decide))
        replace p8 := p8 (hall 8 (by decide))
        replace p9 := p9 (hall 9 (by decide))
        replace p10 := p10 (hall 10 (by decide))
        have hb := hS.1
        subst p10
        clear hall hS p0 p1 p2 p3 p4 p5 p6 p7 p8 p9
        have g0' := cell_mono g0 hb
        clear g0
        have HP_wq := Lib.hid (HP.out.below hb)
        have HU_wq := Lib.hid (HU.out.below hb)
        have HOW_wq := Lib.hid (HOW.out.below hb)
        have hN_wq : N ≤ wq.heap.size := Nat.le_trans hN hb.size
        have hs_wq : W2.heap.size ≤ wq.heap.size := hb.size
        have hs0_wq : w1.heap.size ≤ wq.heap.size := Nat.le_trans hs0 hb.size
        have hl_R_wq : w.heap.size < wq.heap.size := Nat.lt_of_lt_of_le hl_R hb.size
        have k_R_0_wq : wq.cell? ⟨w.heap.size, 0, none⟩ = some (.bool s) := (hb.cell (p := ⟨w.heap.size, 0, none⟩) hl_R).trans k_R_0
        have k_R_1_wq : wq.cell? ⟨w.heap.size, 1, none⟩ = some (.slice a na ca) := (hb.cell (p := ⟨w.heap.size, 1, none⟩) hl_R).trans k_R_1
        have k_R_2_wq : wq.cell? ⟨w.heap.size, 2, none⟩ = some (.slice d nd cd) := (hb.cell (p := ⟨w.heap.size, 2, none⟩) hl_R).trans k_R_2
        have f_R_wq : ∀ o, wq.frozen? ⟨w.heap.size, o, none⟩ = false := fun o => (hb.frozen (p := ⟨w.heap.size, o, none⟩) hl_R).trans (f_R o)
        have HX_R_wq := Lib.hid (HX_R.out.below hb)
        have HR_wq := Lib.hid (HR.out.below hb)
        have HB_wq := Lib.hid (HB.out.trans (hb.mono hs0))
        clear hb
        clear hl_R f_R HX_R k_R_0 k_R_1 k_R_2 HR HB hN hs0
        have hN := hN_wq
        have HB := HB_wq
        have hs0 := hs0_wq
        have hl_R := hl_R_wq
        have f_R := f_R_wq
        have HX_R := HX_R_wq
        have k_R_0 := k_R_0_wq
        have k_R_1 := k_R_1_wq
        have k_R_2 := k_R_2_wq
        have HR := HR_wq
        clear hN_wq HB_wq hs0_wq hl_R_wq f_R_wq HX_R_wq k_R_0_wq k_R_1_wq k_R_2_wq HR_wq
        clear HP HU HOW
        have HP := HP_wq
        have HU := HU_wq
        have HOW := HOW_wq
        clear HP_wq HU_wq HOW_wq
        simp only [Act.put, List.setIfInBounds_toArray, List.set_cons_zero, List.set_cons_succ]
        rcases Bool.eq_false_or_eq_true eb with he | he
        · subst he
          go_wp2_with (at_builtin; refine wpList_append_own_at _ rfl (.tmp 30) (.tmp 36) 23 rfl w1.heap.size 3 i0 (.int .i64 0) 1 8 underIntsE hi hz0 hz1 hz2 rfl (by decide) _ l.length (l.map (Value.int .i64)) rfl (World.ownsRow.alloc HOW.out _) ⟨wq.heap.size, 0, none⟩ 1 1 [.int .i64 x] (by first | rfl | simp) rfl (by intro j u hj; rcases j with _ | j; (· simp at hj; subst hj; simp [Addr.add]); (· simp at hj)) (by intro u hu; simp at hu; subst hu; rfl) (by unfold maxLen; omega) (by omega) (by simp; omega) ?_; intro v2 w2 hm2 hg2 _ hat2; have HO2 := Lib.hid (Ow.push hm2); have HB5 := Lib.hid ((HB.out.alloc hs0 _).grown hg2 (by simp; omega) (fun k hk => (HOW.out.lt k hk).1)); clear hm2 hg2 hat2)
          go_roundw
          case rel => exact ⟨k + 1, l ++ [x], by omega, by go_num, by rw [fltI_yes HX.out HEB.out, HL.out], HO2.out, HB5.out⟩
          case measure => simp [intOf]; omega
        · subst he
          go_wp2_with fail
          go_roundw
          case rel => exact ⟨k + 1, l, by omega, by go_num, by rw [fltI_no HX.out HEB.out, HL.out], HOW.out, HB.out⟩
          case measure => simp [intOf]; omega
    · obtain rfl : k = n := by omega
      rcases HOW.out.il.zs with ⟨a2, c2, rfl, hz⟩
      have HZ := Lib.hid hz
      clear hz
      go_wp2_with fail
      refine (xrising_own a2 l.length c2 _ l _ HZ.out (fun x => by rw [List.mem_iff_getElem]; exact ⟨fun ⟨i, hi, e⟩ => ⟨i, hi, by simp [List.getD, hi, e]⟩, fun ⟨i, hi, e⟩ => ⟨i, hi, by simpa [List.getD, hi] using e⟩⟩) (by omega)).mono ?_
      rintro e w3 ⟨v3, rfl, hil, hb⟩
      have HIL := Lib.hid hil
      have HB7 := Lib.hid (HB.out.trans (hb.mono hs0))
      clear hil hb
      go_wp2_with fail
      go_ret
      exact ⟨_, rfl, by rw [HL.out]; exact HIL.out, HB0.out.trans (HB7.out.mono hsw)⟩

end Go.Proofs.Ytmljfaplohbjcaa
