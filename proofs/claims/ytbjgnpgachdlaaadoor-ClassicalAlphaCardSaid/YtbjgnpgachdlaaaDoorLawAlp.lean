/- ClassicalAlpha: the walk. -/
import Derived.Test.YtbjgnpgachdlaaaDoorClsK
import Derived.Test.YtbjgnpgachdlaaaDoorPrC
import Derived.Test.YtbjgnpgachdlaaaDoorFr
namespace Go.Proofs.YtbjgnpgachdlaaaDoor
open Go.RowKit Go.ChangeShapes Go.WideShapes Go.ChangeAt Go.Deep

theorem txt_zero : txt 0 = [48] := by
  unfold txt
  rw [if_pos (show (0 : Rat).den = 1 from rfl), show (0 : Rat).num.natAbs = 0 from rfl]
  exact dec_zero
theorem zero_small : 0 ≤ (0 : Rat).num ∧ (0 : Rat).num.natAbs < 1000000000 ∧ (0 : Rat).den < 1000000000 := ⟨by decide, by decide, by decide⟩
theorem cmpQ_one (p po : Rat) (h : p ≤ po) : decide (0 < cmpQ p po) = false := by
  unfold cmpQ
  by_cases h1 : p < po
  · rw [if_pos h1]; rfl
  · rw [if_neg h1]
    by_cases h2 : po < p
    · exact absurd h (Rat.not_le.2 h2)
    · rw [if_neg h2]; rfl

/-- what holds behind the part on rows: the box of the number one -/
def AlCut (N : Nat) (w : World) (po : Rat) (s7 : Value) (wx : World) : Prop := ∃ g, s7 = .pointer (some ⟨g, 0, none⟩) ∧ NBox N wx g po ∧ Below w.heap.size w wx

set_option maxRecDepth 100000 in
set_option maxHeartbeats 16000000 in
theorem alp_walk {N : Nat} (a : Option Addr) (n cap : Nat) (ra : Nat → Option Addr) (rn rc : Nat → Nat) (z : Nat → Nat → Int) (ax ay : Option Addr) (nx cx0 ny cy0 : Nat) (x y : Nat → Int) (w : World) (hN : N ≤ w.heap.size) (h : Rw w a n cap ra rn rc z) (hx : Is w ax nx cx0 x) (hy : Is w ay ny cy0 y) (htab : TabW w) (p2 : Rat) (c : Int) (hrel : ∀ w', N ≤ w'.heap.size → Rw w' a n cap ra rn rc z → Calls Tryd.prog 15 #[.slice a n cap] w' (RatPostC N w' p2 c)) (hal : (c = 0 ∧ p2 ≤ 1) ∨ (c ≠ 0 ∧ p2 = 0)) (hz2 : rsz p2 ≤ 1000)
    (s : Int) (q : Rat) (e : Int) (hc1 : ∀ w', N ≤ w'.heap.size → Is w' ax nx cx0 x → Is w' ay ny cy0 y → Calls Tryd.prog 18 #[.slice ax nx cx0, .slice ay ny cy0] w' (CorPost N w' s q e)) (hc2 : ∀ w', N ≤ w'.heap.size → Is w' ay ny cy0 y → Is w' ax nx cx0 x → Calls Tryd.prog 18 #[.slice ay ny cy0, .slice ax nx cx0] w' (CorPost N w' s q e)) (q0 : 0 ≤ q) (q1 : q ≤ 1) (s0 : -1 ≤ s) (s1 : s ≤ 1) (hsq : s = 0 ↔ q = 0) (hzq : rsz q ≤ 1000)
    (t : Int) (r : Rat) (g : Int) (hc3 : ∀ w', N ≤ w'.heap.size → Is w' ax nx cx0 x → Is w' ax nx cx0 x → Calls Tryd.prog 18 #[.slice ax nx cx0, .slice ax nx cx0] w' (CorPost N w' t r g)) (ht : g = 0 → t = 1 ∧ r = 1) :
    Calls Tryd.prog 4 #[.slice a n cap, .slice ax nx cx0, .slice ay ny cy0] w fun e w' => e = .returned (.bool true) ∧ Below w.heap.size w w' := by
  obtain ⟨po, hpo⟩ : ∃ p : Rat, ((1 : Int) : Rat) / ((1 : Int) : Rat) = p := ⟨_, rfl⟩
  have hpo1 : po = 1 := by rw [← hpo]; (first | grind | decide | (simp; done))
  have HPO1 := Lib.hid hpo1
  have HPo := Lib.hid ((mk_div 1 1).trans hpo)
  have Zpo := Lib.hid (show rsz po ≤ 2 from rsz_div 1 1 po hpo (by decide) (by decide))
  have Zq := Lib.hid hzq
  have Zp2 := Lib.hid hz2
  obtain ⟨sg, hsg⟩ : ∃ i, q.num.sign = i := ⟨_, rfl⟩
  have HSG := Lib.hid hsg
  have hqn : 0 ≤ q.num := Rat.num_nonneg.2 q0
  have g1 : decide (sg < 0) = false := by rw [← hsg]; rw [decide_eq_false_iff_not, Int.not_lt, Int.sign_nonneg_iff]; exact hqn
  have g2 : (sg == 0) = (s == 0) := by
    rw [← hsg]
    by_cases e : q = 0
    · have e2 := hsq.2 e; subst e e2; rfl
    · have e2 : s ≠ 0 := fun e2 => e (hsq.1 e2)
      have e3 : q.num ≠ 0 := fun e3 => e (Rat.num_eq_zero.1 e3)
      have : q.num.sign ≠ 0 := fun h => e3 (Int.sign_eq_zero_iff_zero.1 h)
      rw [beq_eq_false_iff_ne.2 this, beq_eq_false_iff_ne.2 e2]
  obtain ⟨ka, hka⟩ : ∃ i, cmpQ q po = i := ⟨_, rfl⟩
  have HKA := Lib.hid hka
  have g3 : decide (0 < ka) = false := by rw [← hka]; exact cmpQ_one q po (by rw [hpo1]; exact q1)
  obtain ⟨kp, hkp⟩ : ∃ i, cmpQ p2 po = i := ⟨_, rfl⟩
  have HKP := Lib.hid hkp
  have g4 : c = 0 → decide (0 < kp) = false := fun hc => by rw [← hkp]; rcases hal with h | h; (· exact cmpQ_one p2 po (by rw [hpo1]; exact h.2)); (· exact absurd hc h.1)
  have d1 : decide (s < -1) = false := by simp; omega
  have d2 : decide (1 < s) = false := by simp; omega
  have HR := Lib.hid h
  have HX := Lib.hid hx
  have HY := Lib.hid hy
  have HTab := Lib.hid htab
  have HREL := Lib.hid hrel
  have HC1 := Lib.hid hc1
  have HC2 := Lib.hid hc2
  have HC3 := Lib.hid hc3
  have HT := Lib.hid ht
  clear h hx hy htab hrel hc1 hc2 hc3 ht hpo hpo1 hzq hz2 hsg hqn hka hkp q0 q1 hsq
  have hN0 := hN
  have hs0 : w.heap.size ≤ w.heap.size := Nat.le_refl _
  have HB := Lib.hid (Below.refl w.heap.size w)
  go_enter Tryd.func4, Tryd.ntmps4
  go_wp2_with fail
  refine (rof_any (N := N) 1 1 _ hN (by omega) (by omega) (by omega) (by omega) po HPo.out).mono ?_
  rintro e wa ⟨ro, co, ro2, co2, rfl, hn, hn', hb⟩
  have hN_wa : N ≤ wa.heap.size := Nat.le_trans hN hb.size
  have hs_wa : w.heap.size ≤ wa.heap.size := hb.size
  have hs0_wa : w.heap.size ≤ wa.heap.size := Nat.le_trans hs0 hb.size
  have HB_wa := Lib.hid (HB.out.trans (hb.mono hs0))
  clear hb
  clear HB hN hs0
  have hN := hN_wa
  have HB := HB_wa
  have hs0 := hs0_wa
  clear hN_wa HB_wa hs0_wa
  have HO1 := Lib.hid hn
  clear hn
  have HO2 := Lib.hid hn'
  clear hn'
  go_upto_if 26 with (go_at_call 14; refine (much_any _ _ _ ra rn rc z _ ((HR.out.below HB.out).alloc _)).mono ?_; rintro e0 w' ⟨b, rfl, rfl⟩)
  go_cut [7] (fun s7 wx => AlCut N w po s7 wx)
  case first =>
    cases b
    case true =>
      go_wp2_with fail
      go_meet
      refine ⟨wa.heap.size, rfl, ⟨ro, co, ro2, co2, ⟨by first | omega | (simp; done) | (simp; omega), by (repeat' (first | with_reducible exact Kp.refl _ _ | with_reducible apply Kp.alloc | with_reducible apply Kp.drew | (with_reducible refine Kp.put ?_ ?_ ?_ _; rotate_left; (focus (first | omega | (simp; done) | (simp; omega))); rotate_left) | (with_reducible refine Bn.new _ _ _ _ ?_ ?_; (focus (first | omega | (simp; done) | (simp; omega))); decide) | with_reducible apply Bn.alloc | with_reducible apply Bn.drew | with_reducible apply Bn.set)), fun o => by first | (go_simp; done) | (simp; done) | (simp [go_sem]; done) | (simp [go_sem]; done), by first | with_reducible assumption | (go_simp; done) | (simp; done) | (simp [go_sem]; done) | (simp [go_sem]; done), by first | with_reducible assumption | (go_simp; done) | (simp; done) | (simp [go_sem]; done) | (simp [go_sem]; done), by first | with_reducible assumption | (go_simp; done) | (simp; done) | (simp [go_sem]; done) | (simp [go_sem]; done)⟩, HO1.out.keep ?_, HO2.out.keep ?_⟩, ?_⟩
      · (repeat' (first | with_reducible exact Kp.refl _ _ | with_reducible apply Kp.alloc | with_reducible apply Kp.drew | (with_reducible refine Kp.put ?_ ?_ ?_ _; rotate_left; (focus (first | omega | (simp; done) | (simp; omega))); rotate_left) | (with_reducible refine Bn.new _ _ _ _ ?_ ?_; (focus (first | omega | (simp; done) | (simp; omega))); decide) | with_reducible apply Bn.alloc | with_reducible apply Bn.drew | with_reducible apply Bn.set))
      · (repeat' (first | with_reducible exact Kp.refl _ _ | with_reducible apply Kp.alloc | with_reducible apply Kp.drew | (with_reducible refine Kp.put ?_ ?_ ?_ _; rotate_left; (focus (first | omega | (simp; done) | (simp; omega))); rotate_left) | (with_reducible refine Bn.new _ _ _ _ ?_ ?_; (focus (first | omega | (simp; done) | (simp; omega))); decide) | with_reducible apply Bn.alloc | with_reducible apply Bn.drew | with_reducible apply Bn.set))
      · (repeat' (first | with_reducible exact Below.refl _ _ | with_reducible exact HB.out | (with_reducible refine Below.alloc ?_ ?_ _; rotate_left; (focus (first | omega | (simp; done) | (simp; omega)))) | with_reducible apply Below.drew | (with_reducible refine Below.setCell ?_ ?_ _; rotate_left; (focus (first | omega | (simp; done) | (simp; omega))))))
    case false =>
      go_wp2_with fail
      refine calls_name fun WA hW => ?_
      have hN_WA : N ≤ WA.heap.size := by rw [← hW]; (first | omega | (simp; done) | (simp; omega))
      have hs_WA : wa.heap.size ≤ WA.heap.size := by rw [← hW]; (first | omega | (simp; done) | (simp; omega))
      have hs0_WA : w.heap.size ≤ WA.heap.size := by rw [← hW]; (first | omega | (simp; done) | (simp; omega))
      have hl_N1_WA : wa.heap.size < WA.heap.size := by rw [← hW]; (first | omega | (simp; done) | (simp; omega))
      have k_N1_0_WA : WA.cell? ⟨wa.heap.size, 0, none⟩ = some (.bool (decide ((po).num < 0))) := by rw [← hW]; (first | (go_simp; done) | (simp; done) | (simp [go_sem]; done) | (simp [go_sem]; done))
      have k_N1_1_WA : WA.cell? ⟨wa.heap.size, 1, none⟩ = some (.slice ro (nlen (po).num.natAbs) co) := by rw [← hW]; (first | (go_simp; done) | (simp; done) | (simp [go_sem]; done) | (simp [go_sem]; done))
      have k_N1_2_WA : WA.cell? ⟨wa.heap.size, 2, none⟩ = some (.slice ro2 (nlen (po).den) co2) := by rw [← hW]; (first | (go_simp; done) | (simp; done) | (simp [go_sem]; done) | (simp [go_sem]; done))
      have f_N1_WA : ∀ o, WA.frozen? ⟨wa.heap.size, o, none⟩ = false := by intro o; rw [← hW]; (first | (go_simp; done) | (simp; done) | (simp [go_sem]; done) | (simp [go_sem]; done))
      have HX_N1_WA := Lib.hid (show Bn WA (wa.heap.size) by rw [← hW]; (repeat' (first | with_reducible exact Kp.refl _ _ | with_reducible apply Kp.alloc | with_reducible apply Kp.drew | (with_reducible refine Kp.put ?_ ?_ ?_ _; rotate_left; (focus (first | omega | (simp; done) | (simp; omega))); rotate_left) | (with_reducible refine Bn.new _ _ _ _ ?_ ?_; (focus (first | omega | (simp; done) | (simp; omega))); decide) | with_reducible apply Bn.alloc | with_reducible apply Bn.drew | with_reducible apply Bn.set)))
      have HK_WA := Lib.hid (show Kp N wa WA by rw [← hW]; (repeat' (first | with_reducible exact Kp.refl _ _ | with_reducible apply Kp.alloc | with_reducible apply Kp.drew | (with_reducible refine Kp.put ?_ ?_ ?_ _; rotate_left; (focus (first | omega | (simp; done) | (simp; omega))); rotate_left) | (with_reducible refine Bn.new _ _ _ _ ?_ ?_; (focus (first | omega | (simp; done) | (simp; omega))); decide) | with_reducible apply Bn.alloc | with_reducible apply Bn.drew | with_reducible apply Bn.set)))
      have HO1_WA := Lib.hid (HO1.out.keep HK_WA.out)
      have HO2_WA := Lib.hid (HO2.out.keep HK_WA.out)
      have HB_WA := Lib.hid (show Below w.heap.size w WA by rw [← hW]; (repeat' (first | with_reducible exact Below.refl _ _ | with_reducible exact HB.out | (with_reducible refine Below.alloc ?_ ?_ _; rotate_left; (focus (first | omega | (simp; done) | (simp; omega)))) | with_reducible apply Below.drew | (with_reducible refine Below.setCell ?_ ?_ _; rotate_left; (focus (first | omega | (simp; done) | (simp; omega)))))))
      clear hW HK_WA
      clear HO1 HO2 HB hN hs0
      have hN := hN_WA
      have HB := HB_WA
      have hs0 := hs0_WA
      have hl_N1 := hl_N1_WA
      have f_N1 := f_N1_WA
      have HX_N1 := HX_N1_WA
      have k_N1_0 := k_N1_0_WA
      have k_N1_1 := k_N1_1_WA
      have k_N1_2 := k_N1_2_WA
      have HO1 := HO1_WA
      have HO2 := HO2_WA
      clear hN_WA HB_WA hs0_WA hl_N1_WA f_N1_WA HX_N1_WA k_N1_0_WA k_N1_1_WA k_N1_2_WA HO1_WA HO2_WA
      refine (HREL.out _ hN (HR.out.below HB.out)).mono ?_
      rintro e wb ⟨rp, cp, rp2, cp2, rfl, hn, hn', hb⟩
      have hN_wb : N ≤ wb.heap.size := Nat.le_trans hN hb.size
      have hs_wb : WA.heap.size ≤ wb.heap.size := hb.size
      have hs0_wb : w.heap.size ≤ wb.heap.size := Nat.le_trans hs0 hb.size
      have hl_N1_wb : wa.heap.size < wb.heap.size := Nat.lt_of_lt_of_le hl_N1 hb.size
      have k_N1_0_wb : wb.cell? ⟨wa.heap.size, 0, none⟩ = some (.bool (decide ((po).num < 0))) := (hb.cell (p := ⟨wa.heap.size, 0, none⟩) hl_N1).trans k_N1_0
      have k_N1_1_wb : wb.cell? ⟨wa.heap.size, 1, none⟩ = some (.slice ro (nlen (po).num.natAbs) co) := (hb.cell (p := ⟨wa.heap.size, 1, none⟩) hl_N1).trans k_N1_1
      have k_N1_2_wb : wb.cell? ⟨wa.heap.size, 2, none⟩ = some (.slice ro2 (nlen (po).den) co2) := (hb.cell (p := ⟨wa.heap.size, 2, none⟩) hl_N1).trans k_N1_2
      have f_N1_wb : ∀ o, wb.frozen? ⟨wa.heap.size, o, none⟩ = false := fun o => (hb.frozen (p := ⟨wa.heap.size, o, none⟩) hl_N1).trans (f_N1 o)
      have HX_N1_wb := Lib.hid (HX_N1.out.below hb)
      have HO1_wb := Lib.hid (HO1.out.below hb)
      have HO2_wb := Lib.hid (HO2.out.below hb)
      have HB_wb := Lib.hid (HB.out.trans (hb.mono hs0))
      clear hb
      clear hl_N1 f_N1 HX_N1 k_N1_0 k_N1_1 k_N1_2 HO1 HO2 HB hN hs0
      have hN := hN_wb
      have HB := HB_wb
      have hs0 := hs0_wb
      have hl_N1 := hl_N1_wb
      have f_N1 := f_N1_wb
      have HX_N1 := HX_N1_wb
      have k_N1_0 := k_N1_0_wb
      have k_N1_1 := k_N1_1_wb
      have k_N1_2 := k_N1_2_wb
      have HO1 := HO1_wb
      have HO2 := HO2_wb
      clear hN_wb HB_wb hs0_wb hl_N1_wb f_N1_wb HX_N1_wb k_N1_0_wb k_N1_1_wb k_N1_2_wb HO1_wb HO2_wb
      have HP1 := Lib.hid hn
      clear hn
      have HP2 := Lib.hid hn'
      clear hn'
      rcases hal with ⟨hc0, hp1⟩ | ⟨hc0, hp1⟩
      · subst hc0
        clear hp1
        have g5 := g4 rfl
        go_wp2_with fail
        refine calls_name fun WB hW => ?_
        have hN_WB : N ≤ WB.heap.size := by rw [← hW]; (first | omega | (simp; done) | (simp; omega))
        have hs_WB : wb.heap.size ≤ WB.heap.size := by rw [← hW]; (first | omega | (simp; done) | (simp; omega))
        have hs0_WB : w.heap.size ≤ WB.heap.size := by rw [← hW]; (first | omega | (simp; done) | (simp; omega))
        have hd_N1_AL : wa.heap.size < wb.heap.size := by omega
        have hl_N1_WB : wa.heap.size < WB.heap.size := by rw [← hW]; (first | omega | (simp; done) | (simp; omega))
        have k_N1_0_WB : WB.cell? ⟨wa.heap.size, 0, none⟩ = some (.bool (decide ((po).num < 0))) := by rw [← hW]; (first | with_reducible exact k_N1_0 | (simp [go_sem, k_N1_0]; done) | (simp [go_sem, k_N1_0, hl_N1]; done) | (go_simp; done) | (simp [go_sem, k_N1_0, k_N1_1, k_N1_2, f_N1, hl_N1]; done))
        have k_N1_1_WB : WB.cell? ⟨wa.heap.size, 1, none⟩ = some (.slice ro (nlen (po).num.natAbs) co) := by rw [← hW]; (first | with_reducible exact k_N1_1 | (simp [go_sem, k_N1_1]; done) | (simp [go_sem, k_N1_1, hl_N1]; done) | (go_simp; done) | (simp [go_sem, k_N1_0, k_N1_1, k_N1_2, f_N1, hl_N1]; done))
        have k_N1_2_WB : WB.cell? ⟨wa.heap.size, 2, none⟩ = some (.slice ro2 (nlen (po).den) co2) := by rw [← hW]; (first | with_reducible exact k_N1_2 | (simp [go_sem, k_N1_2]; done) | (simp [go_sem, k_N1_2, hl_N1]; done) | (go_simp; done) | (simp [go_sem, k_N1_0, k_N1_1, k_N1_2, f_N1, hl_N1]; done))
        have f_N1_WB : ∀ o, WB.frozen? ⟨wa.heap.size, o, none⟩ = false := by intro o; rw [← hW]; (first | with_reducible exact f_N1 o | (simp [go_sem, f_N1]; done) | (simp [go_sem, f_N1, hl_N1]; done) | (go_simp; done) | (simp [go_sem, k_N1_0, k_N1_1, k_N1_2, f_N1, hl_N1]; done))
        have HX_N1_WB := Lib.hid (show Bn WB (wa.heap.size) by rw [← hW]; (repeat' (first | with_reducible exact Kp.refl _ _ | with_reducible exact HX_N1.out | with_reducible apply Kp.alloc | with_reducible apply Kp.drew | (with_reducible refine Kp.put ?_ ?_ ?_ _; rotate_left; (focus (first | omega | (simp; done) | (simp; omega))); rotate_left) | (with_reducible refine Bn.new _ _ _ _ ?_ ?_; (focus (first | omega | (simp; done) | (simp; omega))); decide) | with_reducible apply Bn.alloc | with_reducible apply Bn.drew | with_reducible apply Bn.set)))
        have hl_AL_WB : wb.heap.size < WB.heap.size := by rw [← hW]; (first | omega | (simp; done) | (simp; omega))
        have k_AL_0_WB : WB.cell? ⟨wb.heap.size, 0, none⟩ = some (.bool (decide ((p2).num < 0))) := by rw [← hW]; (first | (go_simp; done) | (simp; done) | (simp [go_sem]; done) | (simp [go_sem, k_N1_0, k_N1_1, k_N1_2, f_N1, hl_N1]; done))
        have k_AL_1_WB : WB.cell? ⟨wb.heap.size, 1, none⟩ = some (.slice rp (nlen (p2).num.natAbs) cp) := by rw [← hW]; (first | (go_simp; done) | (simp; done) | (simp [go_sem]; done) | (simp [go_sem, k_N1_0, k_N1_1, k_N1_2, f_N1, hl_N1]; done))
        have k_AL_2_WB : WB.cell? ⟨wb.heap.size, 2, none⟩ = some (.slice rp2 (nlen (p2).den) cp2) := by rw [← hW]; (first | (go_simp; done) | (simp; done) | (simp [go_sem]; done) | (simp [go_sem, k_N1_0, k_N1_1, k_N1_2, f_N1, hl_N1]; done))
        have f_AL_WB : ∀ o, WB.frozen? ⟨wb.heap.size, o, none⟩ = false := by intro o; rw [← hW]; (first | (go_simp; done) | (simp; done) | (simp [go_sem]; done) | (simp [go_sem, k_N1_0, k_N1_1, k_N1_2, f_N1, hl_N1]; done))
        have HX_AL_WB := Lib.hid (show Bn WB (wb.heap.size) by rw [← hW]; (repeat' (first | with_reducible exact Kp.refl _ _ | with_reducible exact HX_N1.out | with_reducible apply Kp.alloc | with_reducible apply Kp.drew | (with_reducible refine Kp.put ?_ ?_ ?_ _; rotate_left; (focus (first | omega | (simp; done) | (simp; omega))); rotate_left) | (with_reducible refine Bn.new _ _ _ _ ?_ ?_; (focus (first | omega | (simp; done) | (simp; omega))); decide) | with_reducible apply Bn.alloc | with_reducible apply Bn.drew | with_reducible apply Bn.set)))
        have HK_WB := Lib.hid (show Kp N wb WB by rw [← hW]; (repeat' (first | with_reducible exact Kp.refl _ _ | with_reducible exact HX_N1.out | with_reducible apply Kp.alloc | with_reducible apply Kp.drew | (with_reducible refine Kp.put ?_ ?_ ?_ _; rotate_left; (focus (first | omega | (simp; done) | (simp; omega))); rotate_left) | (with_reducible refine Bn.new _ _ _ _ ?_ ?_; (focus (first | omega | (simp; done) | (simp; omega))); decide) | with_reducible apply Bn.alloc | with_reducible apply Bn.drew | with_reducible apply Bn.set)))
        have HO1_WB := Lib.hid (HO1.out.keep HK_WB.out)
        have HO2_WB := Lib.hid (HO2.out.keep HK_WB.out)
        have HP1_WB := Lib.hid (HP1.out.keep HK_WB.out)
        have HP2_WB := Lib.hid (HP2.out.keep HK_WB.out)
        have HB_WB := Lib.hid (show Below w.heap.size w WB by rw [← hW]; (repeat' (first | with_reducible exact Below.refl _ _ | with_reducible exact HB.out | (with_reducible refine Below.alloc ?_ ?_ _; rotate_left; (focus (first | omega | (simp; done) | (simp; omega)))) | with_reducible apply Below.drew | (with_reducible refine Below.setCell ?_ ?_ _; rotate_left; (focus (first | omega | (simp; done) | (simp; omega)))))))
        clear hW HK_WB
        clear hl_N1 f_N1 HX_N1 k_N1_0 k_N1_1 k_N1_2 HO1 HO2 HP1 HP2 HB hN hs0
        have hN := hN_WB
        have HB := HB_WB
        have hs0 := hs0_WB
        have hl_N1 := hl_N1_WB
        have f_N1 := f_N1_WB
        have HX_N1 := HX_N1_WB
        have k_N1_0 := k_N1_0_WB
        have k_N1_1 := k_N1_1_WB
        have k_N1_2 := k_N1_2_WB
        have hl_AL := hl_AL_WB
        have f_AL := f_AL_WB
        have HX_AL := HX_AL_WB
        have k_AL_0 := k_AL_0_WB
        have k_AL_1 := k_AL_1_WB
        have k_AL_2 := k_AL_2_WB
        have HO1 := HO1_WB
        have HO2 := HO2_WB
        have HP1 := HP1_WB
        have HP2 := HP2_WB
        clear hN_WB HB_WB hs0_WB hl_N1_WB f_N1_WB HX_N1_WB k_N1_0_WB k_N1_1_WB k_N1_2_WB hl_AL_WB f_AL_WB HX_AL_WB k_AL_0_WB k_AL_1_WB k_AL_2_WB HO1_WB HO2_WB HP1_WB HP2_WB
        refine (rcmp_any (N := N) _ _ _ _ _ _ _ _ _ _ _ _ _ _ 1000 2 p2 po _ hN (Rt.of_norm HP1.out HP2.out 1000 Zp2.out) (Rt.of_norm HO1.out HO2.out 2 Zpo.out) (by omega) (by omega)).mono ?_
        rw [HKP.out]
        rintro e wx ⟨rfl, hb⟩
        have hN_wx : N ≤ wx.heap.size := Nat.le_trans hN hb.size
        have hs_wx : WB.heap.size ≤ wx.heap.size := hb.size
        have hs0_wx : w.heap.size ≤ wx.heap.size := Nat.le_trans hs0 hb.size
        have hl_N1_wx : wa.heap.size < wx.heap.size := Nat.lt_of_lt_of_le hl_N1 hb.size
        have k_N1_0_wx : wx.cell? ⟨wa.heap.size, 0, none⟩ = some (.bool (decide ((po).num < 0))) := (hb.cell (p := ⟨wa.heap.size, 0, none⟩) hl_N1).trans k_N1_0
        have k_N1_1_wx : wx.cell? ⟨wa.heap.size, 1, none⟩ = some (.slice ro (nlen (po).num.natAbs) co) := (hb.cell (p := ⟨wa.heap.size, 1, none⟩) hl_N1).trans k_N1_1
        have k_N1_2_wx : wx.cell? ⟨wa.heap.size, 2, none⟩ = some (.slice ro2 (nlen (po).den) co2) := (hb.cell (p := ⟨wa.heap.size, 2, none⟩) hl_N1).trans k_N1_2
        have f_N1_wx : ∀ o, wx.frozen? ⟨wa.heap.size, o, none⟩ = false := fun o => (hb.frozen (p := ⟨wa.heap.size, o, none⟩) hl_N1).trans (f_N1 o)
        have HX_N1_wx := Lib.hid (HX_N1.out.below hb)
        have hl_AL_wx : wb.heap.size < wx.heap.size := Nat.lt_of_lt_of_le hl_AL hb.size
        have k_AL_0_wx : wx.cell? ⟨wb.heap.size, 0, none⟩ = some (.bool (decide ((p2).num < 0))) := (hb.cell (p := ⟨wb.heap.size, 0, none⟩) hl_AL).trans k_AL_0
        have k_AL_1_wx : wx.cell? ⟨wb.heap.size, 1, none⟩ = some (.slice rp (nlen (p2).num.natAbs) cp) := (hb.cell (p := ⟨wb.heap.size, 1, none⟩) hl_AL).trans k_AL_1
        have k_AL_2_wx : wx.cell? ⟨wb.heap.size, 2, none⟩ = some (.slice rp2 (nlen (p2).den) cp2) := (hb.cell (p := ⟨wb.heap.size, 2, none⟩) hl_AL).trans k_AL_2
        have f_AL_wx : ∀ o, wx.frozen? ⟨wb.heap.size, o, none⟩ = false := fun o => (hb.frozen (p := ⟨wb.heap.size, o, none⟩) hl_AL).trans (f_AL o)
        have HX_AL_wx := Lib.hid (HX_AL.out.below hb)
        have HO1_wx := Lib.hid (HO1.out.below hb)
        have HO2_wx := Lib.hid (HO2.out.below hb)
        have HP1_wx := Lib.hid (HP1.out.below hb)
        have HP2_wx := Lib.hid (HP2.out.below hb)
        have HB_wx := Lib.hid (HB.out.trans (hb.mono hs0))
        clear hb
        clear hl_N1 f_N1 HX_N1 k_N1_0 k_N1_1 k_N1_2 hl_AL f_AL HX_AL k_AL_0 k_AL_1 k_AL_2 HO1 HO2 HP1 HP2 HB hN hs0
        have hN := hN_wx
        have HB := HB_wx
        have hs0 := hs0_wx
        have hl_N1 := hl_N1_wx
        have f_N1 := f_N1_wx
        have HX_N1 := HX_N1_wx
        have k_N1_0 := k_N1_0_wx
        have k_N1_1 := k_N1_1_wx
        have k_N1_2 := k_N1_2_wx
        have hl_AL := hl_AL_wx
        have f_AL := f_AL_wx
        have HX_AL := HX_AL_wx
        have k_AL_0 := k_AL_0_wx
        have k_AL_1 := k_AL_1_wx
        have k_AL_2 := k_AL_2_wx
        have HO1 := HO1_wx
        have HO2 := HO2_wx
        have HP1 := HP1_wx
        have HP2 := HP2_wx
        clear hN_wx HB_wx hs0_wx hl_N1_wx f_N1_wx HX_N1_wx k_N1_0_wx k_N1_1_wx k_N1_2_wx hl_AL_wx f_AL_wx HX_AL_wx k_AL_0_wx k_AL_1_wx k_AL_2_wx HO1_wx HO2_wx HP1_wx HP2_wx
        go_wp2_with fail
        refine (ratPrint_any (N := N) _ _ _ _ _ _ _ 1000 p2 _ hN (Rt.of_norm HP1.out HP2.out 1000 Zp2.out) (by omega) (HTab.out.below HB.out)).mono ?_
        rintro e wy ⟨l, rfl, l0, _, hb⟩
        have hN_wy : N ≤ wy.heap.size := Nat.le_trans hN hb.size
        have hs_wy : wx.heap.size ≤ wy.heap.size := hb.size
        have hs0_wy : w.heap.size ≤ wy.heap.size := Nat.le_trans hs0 hb.size
        have hl_N1_wy : wa.heap.size < wy.heap.size := Nat.lt_of_lt_of_le hl_N1 hb.size
        have k_N1_0_wy : wy.cell? ⟨wa.heap.size, 0, none⟩ = some (.bool (decide ((po).num < 0))) := (hb.cell (p := ⟨wa.heap.size, 0, none⟩) hl_N1).trans k_N1_0
        have k_N1_1_wy : wy.cell? ⟨wa.heap.size, 1, none⟩ = some (.slice ro (nlen (po).num.natAbs) co) := (hb.cell (p := ⟨wa.heap.size, 1, none⟩) hl_N1).trans k_N1_1
        have k_N1_2_wy : wy.cell? ⟨wa.heap.size, 2, none⟩ = some (.slice ro2 (nlen (po).den) co2) := (hb.cell (p := ⟨wa.heap.size, 2, none⟩) hl_N1).trans k_N1_2
        have f_N1_wy : ∀ o, wy.frozen? ⟨wa.heap.size, o, none⟩ = false := fun o => (hb.frozen (p := ⟨wa.heap.size, o, none⟩) hl_N1).trans (f_N1 o)
        have HX_N1_wy := Lib.hid (HX_N1.out.below hb)
        have hl_AL_wy : wb.heap.size < wy.heap.size := Nat.lt_of_lt_of_le hl_AL hb.size
        have k_AL_0_wy : wy.cell? ⟨wb.heap.size, 0, none⟩ = some (.bool (decide ((p2).num < 0))) := (hb.cell (p := ⟨wb.heap.size, 0, none⟩) hl_AL).trans k_AL_0
        have k_AL_1_wy : wy.cell? ⟨wb.heap.size, 1, none⟩ = some (.slice rp (nlen (p2).num.natAbs) cp) := (hb.cell (p := ⟨wb.heap.size, 1, none⟩) hl_AL).trans k_AL_1
        have k_AL_2_wy : wy.cell? ⟨wb.heap.size, 2, none⟩ = some (.slice rp2 (nlen (p2).den) cp2) := (hb.cell (p := ⟨wb.heap.size, 2, none⟩) hl_AL).trans k_AL_2
        have f_AL_wy : ∀ o, wy.frozen? ⟨wb.heap.size, o, none⟩ = false := fun o => (hb.frozen (p := ⟨wb.heap.size, o, none⟩) hl_AL).trans (f_AL o)
        have HX_AL_wy := Lib.hid (HX_AL.out.below hb)
        have HO1_wy := Lib.hid (HO1.out.below hb)
        have HO2_wy := Lib.hid (HO2.out.below hb)
        have HP1_wy := Lib.hid (HP1.out.below hb)
        have HP2_wy := Lib.hid (HP2.out.below hb)
        have HB_wy := Lib.hid (HB.out.trans (hb.mono hs0))
        clear hb
        clear hl_N1 f_N1 HX_N1 k_N1_0 k_N1_1 k_N1_2 hl_AL f_AL HX_AL k_AL_0 k_AL_1 k_AL_2 HO1 HO2 HP1 HP2 HB hN hs0
        have hN := hN_wy
        have HB := HB_wy
        have hs0 := hs0_wy
        have hl_N1 := hl_N1_wy
        have f_N1 := f_N1_wy
        have HX_N1 := HX_N1_wy
        have k_N1_0 := k_N1_0_wy
        have k_N1_1 := k_N1_1_wy
        have k_N1_2 := k_N1_2_wy
        have hl_AL := hl_AL_wy
        have f_AL := f_AL_wy
        have HX_AL := HX_AL_wy
        have k_AL_0 := k_AL_0_wy
        have k_AL_1 := k_AL_1_wy
        have k_AL_2 := k_AL_2_wy
        have HO1 := HO1_wy
        have HO2 := HO2_wy
        have HP1 := HP1_wy
        have HP2 := HP2_wy
        clear hN_wy HB_wy hs0_wy hl_N1_wy f_N1_wy HX_N1_wy k_N1_0_wy k_N1_1_wy k_N1_2_wy hl_AL_wy f_AL_wy HX_AL_wy k_AL_0_wy k_AL_1_wy k_AL_2_wy HO1_wy HO2_wy HP1_wy HP2_wy
        obtain ⟨sv, hsv⟩ : ∃ sv : ByteArray, (⟨l.toArray⟩ : ByteArray) = sv := ⟨_, rfl⟩
        rw [hsv]
        have hne : sv.toList ≠ [] := by rw [← hsv, ByteArray.toList_eq]; intro e; rw [show l = [] by simpa using e] at l0; exact absurd l0 (by decide)
        have hs1 : (sv.toList == []) = false := by simpa using hne
        have hs2 : sv.toList.isEmpty = false := by simpa using hne
        have hs3 : (sv.toList == ByteArray.toList ⟨#[]⟩) = false := by rw [ByteArray.toList_eq ⟨#[]⟩]; simpa using hne
        clear hsv
        clear hne
        go_wp2_with fail
        go_meet
        refine ⟨wa.heap.size, rfl, ⟨ro, co, ro2, co2, ⟨by first | omega | (simp; done) | (simp; omega), by (repeat' (first | with_reducible exact Kp.refl _ _ | with_reducible exact HX_N1.out | with_reducible exact HX_AL.out | with_reducible apply Kp.alloc | with_reducible apply Kp.drew | (with_reducible refine Kp.put ?_ ?_ ?_ _; rotate_left; (focus (first | omega | (simp; done) | (simp; omega))); rotate_left) | (with_reducible refine Bn.new _ _ _ _ ?_ ?_; (focus (first | omega | (simp; done) | (simp; omega))); decide) | with_reducible apply Bn.alloc | with_reducible apply Bn.drew | with_reducible apply Bn.set)), fun o => by first | with_reducible exact f_N1 o | (simp [go_sem, f_N1]; done) | (simp [go_sem, f_N1, hl_N1]; done) | (go_simp; done) | (simp; done) | (simp [go_sem]; done) | (simp [go_sem, k_N1_0, k_N1_1, k_N1_2, k_AL_0, k_AL_1, k_AL_2, f_N1, f_AL, hl_N1, hl_AL]; done), by first | with_reducible assumption | (simp [go_sem, k_N1_0]; done) | (simp [go_sem, k_N1_0, hl_N1]; done) | (go_simp; done) | (simp; done) | (simp [go_sem]; done) | (simp [go_sem, k_N1_0, k_N1_1, k_N1_2, k_AL_0, k_AL_1, k_AL_2, f_N1, f_AL, hl_N1, hl_AL]; done), by first | with_reducible assumption | (simp [go_sem, k_N1_1]; done) | (simp [go_sem, k_N1_1, hl_N1]; done) | (go_simp; done) | (simp; done) | (simp [go_sem]; done) | (simp [go_sem, k_N1_0, k_N1_1, k_N1_2, k_AL_0, k_AL_1, k_AL_2, f_N1, f_AL, hl_N1, hl_AL]; done), by first | with_reducible assumption | (simp [go_sem, k_N1_2]; done) | (simp [go_sem, k_N1_2, hl_N1]; done) | (go_simp; done) | (simp; done) | (simp [go_sem]; done) | (simp [go_sem, k_N1_0, k_N1_1, k_N1_2, k_AL_0, k_AL_1, k_AL_2, f_N1, f_AL, hl_N1, hl_AL]; done)⟩, HO1.out.keep ?_, HO2.out.keep ?_⟩, ?_⟩
        · (repeat' (first | with_reducible exact Kp.refl _ _ | with_reducible exact HX_N1.out | with_reducible exact HX_AL.out | with_reducible apply Kp.alloc | with_reducible apply Kp.drew | (with_reducible refine Kp.put ?_ ?_ ?_ _; rotate_left; (focus (first | omega | (simp; done) | (simp; omega))); rotate_left) | (with_reducible refine Bn.new _ _ _ _ ?_ ?_; (focus (first | omega | (simp; done) | (simp; omega))); decide) | with_reducible apply Bn.alloc | with_reducible apply Bn.drew | with_reducible apply Bn.set))
        · (repeat' (first | with_reducible exact Kp.refl _ _ | with_reducible exact HX_N1.out | with_reducible exact HX_AL.out | with_reducible apply Kp.alloc | with_reducible apply Kp.drew | (with_reducible refine Kp.put ?_ ?_ ?_ _; rotate_left; (focus (first | omega | (simp; done) | (simp; omega))); rotate_left) | (with_reducible refine Bn.new _ _ _ _ ?_ ?_; (focus (first | omega | (simp; done) | (simp; omega))); decide) | with_reducible apply Bn.alloc | with_reducible apply Bn.drew | with_reducible apply Bn.set))
        · (repeat' (first | with_reducible exact Below.refl _ _ | with_reducible exact HB.out | (with_reducible refine Below.alloc ?_ ?_ _; rotate_left; (focus (first | omega | (simp; done) | (simp; omega)))) | with_reducible apply Below.drew | (with_reducible refine Below.setCell ?_ ?_ _; rotate_left; (focus (first | omega | (simp; done) | (simp; omega))))))
      · have hcb : (c == 0) = false := by simpa using hc0
        have hcn : (c != 0) = true := by simpa using hc0
        have HP0 := Lib.hid hp1
        clear hp1
        go_wp2_with fail
        refine calls_name fun WB hW => ?_
        have hN_WB : N ≤ WB.heap.size := by rw [← hW]; (first | omega | (simp; done) | (simp; omega))
        have hs_WB : wb.heap.size ≤ WB.heap.size := by rw [← hW]; (first | omega | (simp; done) | (simp; omega))
        have hs0_WB : w.heap.size ≤ WB.heap.size := by rw [← hW]; (first | omega | (simp; done) | (simp; omega))
        have hd_N1_AL : wa.heap.size < wb.heap.size := by omega
        have hl_N1_WB : wa.heap.size < WB.heap.size := by rw [← hW]; (first | omega | (simp; done) | (simp; omega))
        have k_N1_0_WB : WB.cell? ⟨wa.heap.size, 0, none⟩ = some (.bool (decide ((po).num < 0))) := by rw [← hW]; (first | with_reducible exact k_N1_0 | (simp [go_sem, k_N1_0]; done) | (simp [go_sem, k_N1_0, hl_N1]; done) | (go_simp; done) | (simp [go_sem, k_N1_0, k_N1_1, k_N1_2, f_N1, hl_N1]; done))
        have k_N1_1_WB : WB.cell? ⟨wa.heap.size, 1, none⟩ = some (.slice ro (nlen (po).num.natAbs) co) := by rw [← hW]; (first | with_reducible exact k_N1_1 | (simp [go_sem, k_N1_1]; done) | (simp [go_sem, k_N1_1, hl_N1]; done) | (go_simp; done) | (simp [go_sem, k_N1_0, k_N1_1, k_N1_2, f_N1, hl_N1]; done))
        have k_N1_2_WB : WB.cell? ⟨wa.heap.size, 2, none⟩ = some (.slice ro2 (nlen (po).den) co2) := by rw [← hW]; (first | with_reducible exact k_N1_2 | (simp [go_sem, k_N1_2]; done) | (simp [go_sem, k_N1_2, hl_N1]; done) | (go_simp; done) | (simp [go_sem, k_N1_0, k_N1_1, k_N1_2, f_N1, hl_N1]; done))
        have f_N1_WB : ∀ o, WB.frozen? ⟨wa.heap.size, o, none⟩ = false := by intro o; rw [← hW]; (first | with_reducible exact f_N1 o | (simp [go_sem, f_N1]; done) | (simp [go_sem, f_N1, hl_N1]; done) | (go_simp; done) | (simp [go_sem, k_N1_0, k_N1_1, k_N1_2, f_N1, hl_N1]; done))
        have HX_N1_WB := Lib.hid (show Bn WB (wa.heap.size) by rw [← hW]; (repeat' (first | with_reducible exact Kp.refl _ _ | with_reducible exact HX_N1.out | with_reducible apply Kp.alloc | with_reducible apply Kp.drew | (with_reducible refine Kp.put ?_ ?_ ?_ _; rotate_left; (focus (first | omega | (simp; done) | (simp; omega))); rotate_left) | (with_reducible refine Bn.new _ _ _ _ ?_ ?_; (focus (first | omega | (simp; done) | (simp; omega))); decide) | with_reducible apply Bn.alloc | with_reducible apply Bn.drew | with_reducible apply Bn.set)))
        have hl_AL_WB : wb.heap.size < WB.heap.size := by rw [← hW]; (first | omega | (simp; done) | (simp; omega))
        have k_AL_0_WB : WB.cell? ⟨wb.heap.size, 0, none⟩ = some (.bool (decide ((p2).num < 0))) := by rw [← hW]; (first | (go_simp; done) | (simp; done) | (simp [go_sem]; done) | (simp [go_sem, k_N1_0, k_N1_1, k_N1_2, f_N1, hl_N1]; done))
        have k_AL_1_WB : WB.cell? ⟨wb.heap.size, 1, none⟩ = some (.slice rp (nlen (p2).num.natAbs) cp) := by rw [← hW]; (first | (go_simp; done) | (simp; done) | (simp [go_sem]; done) | (simp [go_sem, k_N1_0, k_N1_1, k_N1_2, f_N1, hl_N1]; done))
        have k_AL_2_WB : WB.cell? ⟨wb.heap.size, 2, none⟩ = some (.slice rp2 (nlen (p2).den) cp2) := by rw [← hW]; (first | (go_simp; done) | (simp; done) | (simp [go_sem]; done) | (simp [go_sem, k_N1_0, k_N1_1, k_N1_2, f_N1, hl_N1]; done))
        have f_AL_WB : ∀ o, WB.frozen? ⟨wb.heap.size, o, none⟩ = false := by intro o; rw [← hW]; (first | (go_simp; done) | (simp; done) | (simp [go_sem]; done) | (simp [go_sem, k_N1_0, k_N1_1, k_N1_2, f_N1, hl_N1]; done))
        have HX_AL_WB := Lib.hid (show Bn WB (wb.heap.size) by rw [← hW]; (repeat' (first | with_reducible exact Kp.refl _ _ | with_reducible exact HX_N1.out | with_reducible apply Kp.alloc | with_reducible apply Kp.drew | (with_reducible refine Kp.put ?_ ?_ ?_ _; rotate_left; (focus (first | omega | (simp; done) | (simp; omega))); rotate_left) | (with_reducible refine Bn.new _ _ _ _ ?_ ?_; (focus (first | omega | (simp; done) | (simp; omega))); decide) | with_reducible apply Bn.alloc | with_reducible apply Bn.drew | with_reducible apply Bn.set)))
        have HK_WB := Lib.hid (show Kp N wb WB by rw [← hW]; (repeat' (first | with_reducible exact Kp.refl _ _ | with_reducible exact HX_N1.out | with_reducible apply Kp.alloc | with_reducible apply Kp.drew | (with_reducible refine Kp.put ?_ ?_ ?_ _; rotate_left; (focus (first | omega | (simp; done) | (simp; omega))); rotate_left) | (with_reducible refine Bn.new _ _ _ _ ?_ ?_; (focus (first | omega | (simp; done) | (simp; omega))); decide) | with_reducible apply Bn.alloc | with_reducible apply Bn.drew | with_reducible apply Bn.set)))
        have HO1_WB := Lib.hid (HO1.out.keep HK_WB.out)
        have HO2_WB := Lib.hid (HO2.out.keep HK_WB.out)
        have HP1_WB := Lib.hid (HP1.out.keep HK_WB.out)
        have HP2_WB := Lib.hid (HP2.out.keep HK_WB.out)
        have HB_WB := Lib.hid (show Below w.heap.size w WB by rw [← hW]; (repeat' (first | with_reducible exact Below.refl _ _ | with_reducible exact HB.out | (with_reducible refine Below.alloc ?_ ?_ _; rotate_left; (focus (first | omega | (simp; done) | (simp; omega)))) | with_reducible apply Below.drew | (with_reducible refine Below.setCell ?_ ?_ _; rotate_left; (focus (first | omega | (simp; done) | (simp; omega)))))))
        clear hW HK_WB
        clear hl_N1 f_N1 HX_N1 k_N1_0 k_N1_1 k_N1_2 HO1 HO2 HP1 HP2 HB hN hs0
        have hN := hN_WB
        have HB := HB_WB
        have hs0 := hs0_WB
        have hl_N1 := hl_N1_WB
        have f_N1 := f_N1_WB
        have HX_N1 := HX_N1_WB
        have k_N1_0 := k_N1_0_WB
        have k_N1_1 := k_N1_1_WB
        have k_N1_2 := k_N1_2_WB
        have hl_AL := hl_AL_WB
        have f_AL := f_AL_WB
        have HX_AL := HX_AL_WB
        have k_AL_0 := k_AL_0_WB
        have k_AL_1 := k_AL_1_WB
        have k_AL_2 := k_AL_2_WB
        have HO1 := HO1_WB
        have HO2 := HO2_WB
        have HP1 := HP1_WB
        have HP2 := HP2_WB
        clear hN_WB HB_WB hs0_WB hl_N1_WB f_N1_WB HX_N1_WB k_N1_0_WB k_N1_1_WB k_N1_2_WB hl_AL_WB f_AL_WB HX_AL_WB k_AL_0_WB k_AL_1_WB k_AL_2_WB HO1_WB HO2_WB HP1_WB HP2_WB
        refine (ratPrint_any (N := N) _ _ _ _ _ _ _ 1000 p2 _ hN (Rt.of_norm HP1.out HP2.out 1000 Zp2.out) (by omega) (HTab.out.below HB.out)).mono ?_
        rintro e wy ⟨l, rfl, l0, l2, hb⟩
        have hN_wy : N ≤ wy.heap.size := Nat.le_trans hN hb.size
        have hs_wy : WB.heap.size ≤ wy.heap.size := hb.size
        have hs0_wy : w.heap.size ≤ wy.heap.size := Nat.le_trans hs0 hb.size
        have hl_N1_wy : wa.heap.size < wy.heap.size := Nat.lt_of_lt_of_le hl_N1 hb.size
        have k_N1_0_wy : wy.cell? ⟨wa.heap.size, 0, none⟩ = some (.bool (decide ((po).num < 0))) := (hb.cell (p := ⟨wa.heap.size, 0, none⟩) hl_N1).trans k_N1_0
        have k_N1_1_wy : wy.cell? ⟨wa.heap.size, 1, none⟩ = some (.slice ro (nlen (po).num.natAbs) co) := (hb.cell (p := ⟨wa.heap.size, 1, none⟩) hl_N1).trans k_N1_1
        have k_N1_2_wy : wy.cell? ⟨wa.heap.size, 2, none⟩ = some (.slice ro2 (nlen (po).den) co2) := (hb.cell (p := ⟨wa.heap.size, 2, none⟩) hl_N1).trans k_N1_2
        have f_N1_wy : ∀ o, wy.frozen? ⟨wa.heap.size, o, none⟩ = false := fun o => (hb.frozen (p := ⟨wa.heap.size, o, none⟩) hl_N1).trans (f_N1 o)
        have HX_N1_wy := Lib.hid (HX_N1.out.below hb)
        have hl_AL_wy : wb.heap.size < wy.heap.size := Nat.lt_of_lt_of_le hl_AL hb.size
        have k_AL_0_wy : wy.cell? ⟨wb.heap.size, 0, none⟩ = some (.bool (decide ((p2).num < 0))) := (hb.cell (p := ⟨wb.heap.size, 0, none⟩) hl_AL).trans k_AL_0
        have k_AL_1_wy : wy.cell? ⟨wb.heap.size, 1, none⟩ = some (.slice rp (nlen (p2).num.natAbs) cp) := (hb.cell (p := ⟨wb.heap.size, 1, none⟩) hl_AL).trans k_AL_1
        have k_AL_2_wy : wy.cell? ⟨wb.heap.size, 2, none⟩ = some (.slice rp2 (nlen (p2).den) cp2) := (hb.cell (p := ⟨wb.heap.size, 2, none⟩) hl_AL).trans k_AL_2
        have f_AL_wy : ∀ o, wy.frozen? ⟨wb.heap.size, o, none⟩ = false := fun o => (hb.frozen (p := ⟨wb.heap.size, o, none⟩) hl_AL).trans (f_AL o)
        have HX_AL_wy := Lib.hid (HX_AL.out.below hb)
        have HO1_wy := Lib.hid (HO1.out.below hb)
        have HO2_wy := Lib.hid (HO2.out.below hb)
        have HP1_wy := Lib.hid (HP1.out.below hb)
        have HP2_wy := Lib.hid (HP2.out.below hb)
        have HB_wy := Lib.hid (HB.out.trans (hb.mono hs0))
        clear hb
        clear hl_N1 f_N1 HX_N1 k_N1_0 k_N1_1 k_N1_2 hl_AL f_AL HX_AL k_AL_0 k_AL_1 k_AL_2 HO1 HO2 HP1 HP2 HB hN hs0
        have hN := hN_wy
        have HB := HB_wy
        have hs0 := hs0_wy
        have hl_N1 := hl_N1_wy
        have f_N1 := f_N1_wy
        have HX_N1 := HX_N1_wy
        have k_N1_0 := k_N1_0_wy
        have k_N1_1 := k_N1_1_wy
        have k_N1_2 := k_N1_2_wy
        have hl_AL := hl_AL_wy
        have f_AL := f_AL_wy
        have HX_AL := HX_AL_wy
        have k_AL_0 := k_AL_0_wy
        have k_AL_1 := k_AL_1_wy
        have k_AL_2 := k_AL_2_wy
        have HO1 := HO1_wy
        have HO2 := HO2_wy
        have HP1 := HP1_wy
        have HP2 := HP2_wy
        clear hN_wy HB_wy hs0_wy hl_N1_wy f_N1_wy HX_N1_wy k_N1_0_wy k_N1_1_wy k_N1_2_wy hl_AL_wy f_AL_wy HX_AL_wy k_AL_0_wy k_AL_1_wy k_AL_2_wy HO1_wy HO2_wy HP1_wy HP2_wy
        rw [HP0.out] at l2
        obtain rfl : l = [48] := (l2 zero_small.1 zero_small.2.1 zero_small.2.2).trans txt_zero
        clear l2 l0
        obtain ⟨sv, hsv⟩ : ∃ sv : ByteArray, (⟨[48].toArray⟩ : ByteArray) = sv := ⟨_, rfl⟩
        rw [hsv]
        have hs1 : (sv.toList == [48]) = true := by rw [← hsv, ByteArray.toList_eq]; exact beq_self_eq_true _
        have hs3 : (sv.toList == ByteArray.toList ⟨#[48]⟩) = true := by rw [← hsv]; exact beq_self_eq_true _
        clear hsv
        go_wp2_with fail
        go_meet
        refine ⟨wa.heap.size, rfl, ⟨ro, co, ro2, co2, ⟨by first | omega | (simp; done) | (simp; omega), by (repeat' (first | with_reducible exact Kp.refl _ _ | with_reducible exact HX_N1.out | with_reducible exact HX_AL.out | with_reducible apply Kp.alloc | with_reducible apply Kp.drew | (with_reducible refine Kp.put ?_ ?_ ?_ _; rotate_left; (focus (first | omega | (simp; done) | (simp; omega))); rotate_left) | (with_reducible refine Bn.new _ _ _ _ ?_ ?_; (focus (first | omega | (simp; done) | (simp; omega))); decide) | with_reducible apply Bn.alloc | with_reducible apply Bn.drew | with_reducible apply Bn.set)), fun o => by first | with_reducible exact f_N1 o | (simp [go_sem, f_N1]; done) | (simp [go_sem, f_N1, hl_N1]; done) | (go_simp; done) | (simp; done) | (simp [go_sem]; done) | (simp [go_sem, k_N1_0, k_N1_1, k_N1_2, k_AL_0, k_AL_1, k_AL_2, f_N1, f_AL, hl_N1, hl_AL]; done), by first | with_reducible assumption | (simp [go_sem, k_N1_0]; done) | (simp [go_sem, k_N1_0, hl_N1]; done) | (go_simp; done) | (simp; done) | (simp [go_sem]; done) | (simp [go_sem, k_N1_0, k_N1_1, k_N1_2, k_AL_0, k_AL_1, k_AL_2, f_N1, f_AL, hl_N1, hl_AL]; done), by first | with_reducible assumption | (simp [go_sem, k_N1_1]; done) | (simp [go_sem, k_N1_1, hl_N1]; done) | (go_simp; done) | (simp; done) | (simp [go_sem]; done) | (simp [go_sem, k_N1_0, k_N1_1, k_N1_2, k_AL_0, k_AL_1, k_AL_2, f_N1, f_AL, hl_N1, hl_AL]; done), by first | with_reducible assumption | (simp [go_sem, k_N1_2]; done) | (simp [go_sem, k_N1_2, hl_N1]; done) | (go_simp; done) | (simp; done) | (simp [go_sem]; done) | (simp [go_sem, k_N1_0, k_N1_1, k_N1_2, k_AL_0, k_AL_1, k_AL_2, f_N1, f_AL, hl_N1, hl_AL]; done)⟩, HO1.out.keep ?_, HO2.out.keep ?_⟩, ?_⟩
        · (repeat' (first | with_reducible exact Kp.refl _ _ | with_reducible exact HX_N1.out | with_reducible exact HX_AL.out | with_reducible apply Kp.alloc | with_reducible apply Kp.drew | (with_reducible refine Kp.put ?_ ?_ ?_ _; rotate_left; (focus (first | omega | (simp; done) | (simp; omega))); rotate_left) | (with_reducible refine Bn.new _ _ _ _ ?_ ?_; (focus (first | omega | (simp; done) | (simp; omega))); decide) | with_reducible apply Bn.alloc | with_reducible apply Bn.drew | with_reducible apply Bn.set))
        · (repeat' (first | with_reducible exact Kp.refl _ _ | with_reducible exact HX_N1.out | with_reducible exact HX_AL.out | with_reducible apply Kp.alloc | with_reducible apply Kp.drew | (with_reducible refine Kp.put ?_ ?_ ?_ _; rotate_left; (focus (first | omega | (simp; done) | (simp; omega))); rotate_left) | (with_reducible refine Bn.new _ _ _ _ ?_ ?_; (focus (first | omega | (simp; done) | (simp; omega))); decide) | with_reducible apply Bn.alloc | with_reducible apply Bn.drew | with_reducible apply Bn.set))
        · (repeat' (first | with_reducible exact Below.refl _ _ | with_reducible exact HB.out | (with_reducible refine Below.alloc ?_ ?_ _; rotate_left; (focus (first | omega | (simp; done) | (simp; omega)))) | with_reducible apply Below.drew | (with_reducible refine Below.setCell ?_ ?_ _; rotate_left; (focus (first | omega | (simp; done) | (simp; omega))))))
  case rest =>
    obtain ⟨wz, rfl⟩ : ∃ wz : World, wz = wc := ⟨_, rfl⟩
    clear HB hN hs0 HO1 HO2
    obtain ⟨g0, rfl, ⟨ro, co, ro2, co2, hbx, hn, hn'⟩, hbel⟩ := hcut
    obtain ⟨hl_N1, bn_N1, f_N1, k_N1_0, k_N1_1, k_N1_2⟩ := hbx
    have HX_N1 := Lib.hid bn_N1
    clear bn_N1
    have HO1 := Lib.hid hn
    have HO2 := Lib.hid hn'
    have hs0 := hbel.size
    have hN : N ≤ wz.heap.size := by omega
    have HB := Lib.hid hbel
    clear hn hn' hbel
    go_wp2_with fail
    refine calls_name fun WRN hW => ?_
    have hN_WRN : N ≤ WRN.heap.size := by rw [← hW]; (first | omega | (simp; done) | (simp; omega))
    have hs_WRN : wz.heap.size ≤ WRN.heap.size := by rw [← hW]; (first | omega | (simp; done) | (simp; omega))
    have hs0_WRN : w.heap.size ≤ WRN.heap.size := by rw [← hW]; (first | omega | (simp; done) | (simp; omega))
    have hl_N1_WRN : g0 < WRN.heap.size := by rw [← hW]; (first | omega | (simp; done) | (simp; omega))
    have k_N1_0_WRN : WRN.cell? ⟨g0, 0, none⟩ = some (.bool (decide ((po).num < 0))) := by rw [← hW]; (first | with_reducible exact k_N1_0 | (simp [go_sem, k_N1_0]; done) | (simp [go_sem, k_N1_0, hl_N1]; done) | (go_simp; done) | (simp [go_sem, k_N1_0, k_N1_1, k_N1_2, f_N1, hl_N1]; done))
    have k_N1_1_WRN : WRN.cell? ⟨g0, 1, none⟩ = some (.slice ro (nlen (po).num.natAbs) co) := by rw [← hW]; (first | with_reducible exact k_N1_1 | (simp [go_sem, k_N1_1]; done) | (simp [go_sem, k_N1_1, hl_N1]; done) | (go_simp; done) | (simp [go_sem, k_N1_0, k_N1_1, k_N1_2, f_N1, hl_N1]; done))
    have k_N1_2_WRN : WRN.cell? ⟨g0, 2, none⟩ = some (.slice ro2 (nlen (po).den) co2) := by rw [← hW]; (first | with_reducible exact k_N1_2 | (simp [go_sem, k_N1_2]; done) | (simp [go_sem, k_N1_2, hl_N1]; done) | (go_simp; done) | (simp [go_sem, k_N1_0, k_N1_1, k_N1_2, f_N1, hl_N1]; done))
    have f_N1_WRN : ∀ o, WRN.frozen? ⟨g0, o, none⟩ = false := by intro o; rw [← hW]; (first | with_reducible exact f_N1 o | (simp [go_sem, f_N1]; done) | (simp [go_sem, f_N1, hl_N1]; done) | (go_simp; done) | (simp [go_sem, k_N1_0, k_N1_1, k_N1_2, f_N1, hl_N1]; done))
    have HX_N1_WRN := Lib.hid (show Bn WRN (g0) by rw [← hW]; (repeat' (first | with_reducible exact Kp.refl _ _ | with_reducible exact HX_N1.out | with_reducible apply Kp.alloc | with_reducible apply Kp.drew | (with_reducible refine Kp.put ?_ ?_ ?_ _; rotate_left; (focus (first | omega | (simp; done) | (simp; omega))); rotate_left) | (with_reducible refine Bn.new _ _ _ _ ?_ ?_; (focus (first | omega | (simp; done) | (simp; omega))); decide) | with_reducible apply Bn.alloc | with_reducible apply Bn.drew | with_reducible apply Bn.set)))
    have HK_WRN := Lib.hid (show Kp N wz WRN by rw [← hW]; (repeat' (first | with_reducible exact Kp.refl _ _ | with_reducible exact HX_N1.out | with_reducible apply Kp.alloc | with_reducible apply Kp.drew | (with_reducible refine Kp.put ?_ ?_ ?_ _; rotate_left; (focus (first | omega | (simp; done) | (simp; omega))); rotate_left) | (with_reducible refine Bn.new _ _ _ _ ?_ ?_; (focus (first | omega | (simp; done) | (simp; omega))); decide) | with_reducible apply Bn.alloc | with_reducible apply Bn.drew | with_reducible apply Bn.set)))
    have HO1_WRN := Lib.hid (HO1.out.keep HK_WRN.out)
    have HO2_WRN := Lib.hid (HO2.out.keep HK_WRN.out)
    have HB_WRN := Lib.hid (show Below w.heap.size w WRN by rw [← hW]; (repeat' (first | with_reducible exact Below.refl _ _ | with_reducible exact HB.out | (with_reducible refine Below.alloc ?_ ?_ _; rotate_left; (focus (first | omega | (simp; done) | (simp; omega)))) | with_reducible apply Below.drew | (with_reducible refine Below.setCell ?_ ?_ _; rotate_left; (focus (first | omega | (simp; done) | (simp; omega)))))))
    clear hW HK_WRN
    clear hl_N1 f_N1 HX_N1 k_N1_0 k_N1_1 k_N1_2 HO1 HO2 HB hN hs0
    have hN := hN_WRN
    have HB := HB_WRN
    have hs0 := hs0_WRN
    have hl_N1 := hl_N1_WRN
    have f_N1 := f_N1_WRN
    have HX_N1 := HX_N1_WRN
    have k_N1_0 := k_N1_0_WRN
    have k_N1_1 := k_N1_1_WRN
    have k_N1_2 := k_N1_2_WRN
    have HO1 := HO1_WRN
    have HO2 := HO2_WRN
    clear hN_WRN HB_WRN hs0_WRN hl_N1_WRN f_N1_WRN HX_N1_WRN k_N1_0_WRN k_N1_1_WRN k_N1_2_WRN HO1_WRN HO2_WRN
    refine (many_any _ _ _ x _ (HX.out.below HB.out)).mono ?_
    rintro e0 w' ⟨b, rfl, rfl⟩
    cases b
    case true =>
      go_wp2_with fail
      go_ret
      exact ⟨rfl, HB.out⟩
    case false =>
      go_wp2_with fail
      refine (many_any _ _ _ y _ (HY.out.below HB.out)).mono ?_
      rintro e0 w' ⟨b, rfl, rfl⟩
      cases b
      case true =>
        go_wp2_with fail
        go_ret
        exact ⟨rfl, HB.out⟩
      case false =>
        go_wp2_with fail
        refine (HC1.out _ hN (HX.out.below HB.out) (HY.out.below HB.out)).mono ?_
        rintro e wc ⟨ra, ca, ra2, ca2, rfl, hn, hn', hb⟩
        have hN_wc : N ≤ wc.heap.size := Nat.le_trans hN hb.size
        have hs_wc : WRN.heap.size ≤ wc.heap.size := hb.size
        have hs0_wc : w.heap.size ≤ wc.heap.size := Nat.le_trans hs0 hb.size
        have hl_N1_wc : g0 < wc.heap.size := Nat.lt_of_lt_of_le hl_N1 hb.size
        have k_N1_0_wc : wc.cell? ⟨g0, 0, none⟩ = some (.bool (decide ((po).num < 0))) := (hb.cell (p := ⟨g0, 0, none⟩) hl_N1).trans k_N1_0
        have k_N1_1_wc : wc.cell? ⟨g0, 1, none⟩ = some (.slice ro (nlen (po).num.natAbs) co) := (hb.cell (p := ⟨g0, 1, none⟩) hl_N1).trans k_N1_1
        have k_N1_2_wc : wc.cell? ⟨g0, 2, none⟩ = some (.slice ro2 (nlen (po).den) co2) := (hb.cell (p := ⟨g0, 2, none⟩) hl_N1).trans k_N1_2
        have f_N1_wc : ∀ o, wc.frozen? ⟨g0, o, none⟩ = false := fun o => (hb.frozen (p := ⟨g0, o, none⟩) hl_N1).trans (f_N1 o)
        have HX_N1_wc := Lib.hid (HX_N1.out.below hb)
        have HO1_wc := Lib.hid (HO1.out.below hb)
        have HO2_wc := Lib.hid (HO2.out.below hb)
        have HB_wc := Lib.hid (HB.out.trans (hb.mono hs0))
        clear hb
        clear hl_N1 f_N1 HX_N1 k_N1_0 k_N1_1 k_N1_2 HO1 HO2 HB hN hs0
        have hN := hN_wc
        have HB := HB_wc
        have hs0 := hs0_wc
        have hl_N1 := hl_N1_wc
        have f_N1 := f_N1_wc
        have HX_N1 := HX_N1_wc
        have k_N1_0 := k_N1_0_wc
        have k_N1_1 := k_N1_1_wc
        have k_N1_2 := k_N1_2_wc
        have HO1 := HO1_wc
        have HO2 := HO2_wc
        clear hN_wc HB_wc hs0_wc hl_N1_wc f_N1_wc HX_N1_wc k_N1_0_wc k_N1_1_wc k_N1_2_wc HO1_wc HO2_wc
        have HA1 := Lib.hid hn
        clear hn
        have HA2 := Lib.hid hn'
        clear hn'
        go_wp2_with fail
        refine calls_name fun WC hW => ?_
        have hN_WC : N ≤ WC.heap.size := by rw [← hW]; (first | omega | (simp; done) | (simp; omega))
        have hs_WC : wc.heap.size ≤ WC.heap.size := by rw [← hW]; (first | omega | (simp; done) | (simp; omega))
        have hs0_WC : w.heap.size ≤ WC.heap.size := by rw [← hW]; (first | omega | (simp; done) | (simp; omega))
        have hd_N1_C : g0 < wc.heap.size := by omega
        have hl_N1_WC : g0 < WC.heap.size := by rw [← hW]; (first | omega | (simp; done) | (simp; omega))
        have k_N1_0_WC : WC.cell? ⟨g0, 0, none⟩ = some (.bool (decide ((po).num < 0))) := by rw [← hW]; (first | with_reducible exact k_N1_0 | (simp [go_sem, k_N1_0]; done) | (simp [go_sem, k_N1_0, hl_N1]; done) | (go_simp; done) | (simp [go_sem, k_N1_0, k_N1_1, k_N1_2, f_N1, hl_N1]; done))
        have k_N1_1_WC : WC.cell? ⟨g0, 1, none⟩ = some (.slice ro (nlen (po).num.natAbs) co) := by rw [← hW]; (first | with_reducible exact k_N1_1 | (simp [go_sem, k_N1_1]; done) | (simp [go_sem, k_N1_1, hl_N1]; done) | (go_simp; done) | (simp [go_sem, k_N1_0, k_N1_1, k_N1_2, f_N1, hl_N1]; done))
        have k_N1_2_WC : WC.cell? ⟨g0, 2, none⟩ = some (.slice ro2 (nlen (po).den) co2) := by rw [← hW]; (first | with_reducible exact k_N1_2 | (simp [go_sem, k_N1_2]; done) | (simp [go_sem, k_N1_2, hl_N1]; done) | (go_simp; done) | (simp [go_sem, k_N1_0, k_N1_1, k_N1_2, f_N1, hl_N1]; done))
        have f_N1_WC : ∀ o, WC.frozen? ⟨g0, o, none⟩ = false := by intro o; rw [← hW]; (first | with_reducible exact f_N1 o | (simp [go_sem, f_N1]; done) | (simp [go_sem, f_N1, hl_N1]; done) | (go_simp; done) | (simp [go_sem, k_N1_0, k_N1_1, k_N1_2, f_N1, hl_N1]; done))
        have HX_N1_WC := Lib.hid (show Bn WC (g0) by rw [← hW]; (repeat' (first | with_reducible exact Kp.refl _ _ | with_reducible exact HX_N1.out | with_reducible apply Kp.alloc | with_reducible apply Kp.drew | (with_reducible refine Kp.put ?_ ?_ ?_ _; rotate_left; (focus (first | omega | (simp; done) | (simp; omega))); rotate_left) | (with_reducible refine Bn.new _ _ _ _ ?_ ?_; (focus (first | omega | (simp; done) | (simp; omega))); decide) | with_reducible apply Bn.alloc | with_reducible apply Bn.drew | with_reducible apply Bn.set)))
        have hl_C_WC : wc.heap.size < WC.heap.size := by rw [← hW]; (first | omega | (simp; done) | (simp; omega))
        have k_C_0_WC : WC.cell? ⟨wc.heap.size, 0, none⟩ = some (.bool (decide ((q).num < 0))) := by rw [← hW]; (first | (go_simp; done) | (simp; done) | (simp [go_sem]; done) | (simp [go_sem, k_N1_0, k_N1_1, k_N1_2, f_N1, hl_N1]; done))
        have k_C_1_WC : WC.cell? ⟨wc.heap.size, 1, none⟩ = some (.slice ra (nlen (q).num.natAbs) ca) := by rw [← hW]; (first | (go_simp; done) | (simp; done) | (simp [go_sem]; done) | (simp [go_sem, k_N1_0, k_N1_1, k_N1_2, f_N1, hl_N1]; done))
        have k_C_2_WC : WC.cell? ⟨wc.heap.size, 2, none⟩ = some (.slice ra2 (nlen (q).den) ca2) := by rw [← hW]; (first | (go_simp; done) | (simp; done) | (simp [go_sem]; done) | (simp [go_sem, k_N1_0, k_N1_1, k_N1_2, f_N1, hl_N1]; done))
        have f_C_WC : ∀ o, WC.frozen? ⟨wc.heap.size, o, none⟩ = false := by intro o; rw [← hW]; (first | (go_simp; done) | (simp; done) | (simp [go_sem]; done) | (simp [go_sem, k_N1_0, k_N1_1, k_N1_2, f_N1, hl_N1]; done))
        have HX_C_WC := Lib.hid (show Bn WC (wc.heap.size) by rw [← hW]; (repeat' (first | with_reducible exact Kp.refl _ _ | with_reducible exact HX_N1.out | with_reducible apply Kp.alloc | with_reducible apply Kp.drew | (with_reducible refine Kp.put ?_ ?_ ?_ _; rotate_left; (focus (first | omega | (simp; done) | (simp; omega))); rotate_left) | (with_reducible refine Bn.new _ _ _ _ ?_ ?_; (focus (first | omega | (simp; done) | (simp; omega))); decide) | with_reducible apply Bn.alloc | with_reducible apply Bn.drew | with_reducible apply Bn.set)))
        have HK_WC := Lib.hid (show Kp N wc WC by rw [← hW]; (repeat' (first | with_reducible exact Kp.refl _ _ | with_reducible exact HX_N1.out | with_reducible apply Kp.alloc | with_reducible apply Kp.drew | (with_reducible refine Kp.put ?_ ?_ ?_ _; rotate_left; (focus (first | omega | (simp; done) | (simp; omega))); rotate_left) | (with_reducible refine Bn.new _ _ _ _ ?_ ?_; (focus (first | omega | (simp; done) | (simp; omega))); decide) | with_reducible apply Bn.alloc | with_reducible apply Bn.drew | with_reducible apply Bn.set)))
        have HO1_WC := Lib.hid (HO1.out.keep HK_WC.out)
        have HO2_WC := Lib.hid (HO2.out.keep HK_WC.out)
        have HA1_WC := Lib.hid (HA1.out.keep HK_WC.out)
        have HA2_WC := Lib.hid (HA2.out.keep HK_WC.out)
        have HB_WC := Lib.hid (show Below w.heap.size w WC by rw [← hW]; (repeat' (first | with_reducible exact Below.refl _ _ | with_reducible exact HB.out | (with_reducible refine Below.alloc ?_ ?_ _; rotate_left; (focus (first | omega | (simp; done) | (simp; omega)))) | with_reducible apply Below.drew | (with_reducible refine Below.setCell ?_ ?_ _; rotate_left; (focus (first | omega | (simp; done) | (simp; omega)))))))
        clear hW HK_WC
        clear hl_N1 f_N1 HX_N1 k_N1_0 k_N1_1 k_N1_2 HO1 HO2 HA1 HA2 HB hN hs0
        have hN := hN_WC
        have HB := HB_WC
        have hs0 := hs0_WC
        have hl_N1 := hl_N1_WC
        have f_N1 := f_N1_WC
        have HX_N1 := HX_N1_WC
        have k_N1_0 := k_N1_0_WC
        have k_N1_1 := k_N1_1_WC
        have k_N1_2 := k_N1_2_WC
        have hl_C := hl_C_WC
        have f_C := f_C_WC
        have HX_C := HX_C_WC
        have k_C_0 := k_C_0_WC
        have k_C_1 := k_C_1_WC
        have k_C_2 := k_C_2_WC
        have HO1 := HO1_WC
        have HO2 := HO2_WC
        have HA1 := HA1_WC
        have HA2 := HA2_WC
        clear hN_WC HB_WC hs0_WC hl_N1_WC f_N1_WC HX_N1_WC k_N1_0_WC k_N1_1_WC k_N1_2_WC hl_C_WC f_C_WC HX_C_WC k_C_0_WC k_C_1_WC k_C_2_WC HO1_WC HO2_WC HA1_WC HA2_WC
        refine (HC2.out _ hN (HY.out.below HB.out) (HX.out.below HB.out)).mono ?_
        rintro e wd ⟨rb, cb, rb2, cb2, rfl, hn, hn', hb⟩
        have hN_wd : N ≤ wd.heap.size := Nat.le_trans hN hb.size
        have hs_wd : WC.heap.size ≤ wd.heap.size := hb.size
        have hs0_wd : w.heap.size ≤ wd.heap.size := Nat.le_trans hs0 hb.size
        have hl_N1_wd : g0 < wd.heap.size := Nat.lt_of_lt_of_le hl_N1 hb.size
        have k_N1_0_wd : wd.cell? ⟨g0, 0, none⟩ = some (.bool (decide ((po).num < 0))) := (hb.cell (p := ⟨g0, 0, none⟩) hl_N1).trans k_N1_0
        have k_N1_1_wd : wd.cell? ⟨g0, 1, none⟩ = some (.slice ro (nlen (po).num.natAbs) co) := (hb.cell (p := ⟨g0, 1, none⟩) hl_N1).trans k_N1_1
        have k_N1_2_wd : wd.cell? ⟨g0, 2, none⟩ = some (.slice ro2 (nlen (po).den) co2) := (hb.cell (p := ⟨g0, 2, none⟩) hl_N1).trans k_N1_2
        have f_N1_wd : ∀ o, wd.frozen? ⟨g0, o, none⟩ = false := fun o => (hb.frozen (p := ⟨g0, o, none⟩) hl_N1).trans (f_N1 o)
        have HX_N1_wd := Lib.hid (HX_N1.out.below hb)
        have hl_C_wd : wc.heap.size < wd.heap.size := Nat.lt_of_lt_of_le hl_C hb.size
        have k_C_0_wd : wd.cell? ⟨wc.heap.size, 0, none⟩ = some (.bool (decide ((q).num < 0))) := (hb.cell (p := ⟨wc.heap.size, 0, none⟩) hl_C).trans k_C_0
        have k_C_1_wd : wd.cell? ⟨wc.heap.size, 1, none⟩ = some (.slice ra (nlen (q).num.natAbs) ca) := (hb.cell (p := ⟨wc.heap.size, 1, none⟩) hl_C).trans k_C_1
        have k_C_2_wd : wd.cell? ⟨wc.heap.size, 2, none⟩ = some (.slice ra2 (nlen (q).den) ca2) := (hb.cell (p := ⟨wc.heap.size, 2, none⟩) hl_C).trans k_C_2
        have f_C_wd : ∀ o, wd.frozen? ⟨wc.heap.size, o, none⟩ = false := fun o => (hb.frozen (p := ⟨wc.heap.size, o, none⟩) hl_C).trans (f_C o)
        have HX_C_wd := Lib.hid (HX_C.out.below hb)
        have HO1_wd := Lib.hid (HO1.out.below hb)
        have HO2_wd := Lib.hid (HO2.out.below hb)
        have HA1_wd := Lib.hid (HA1.out.below hb)
        have HA2_wd := Lib.hid (HA2.out.below hb)
        have HB_wd := Lib.hid (HB.out.trans (hb.mono hs0))
        clear hb
        clear hl_N1 f_N1 HX_N1 k_N1_0 k_N1_1 k_N1_2 hl_C f_C HX_C k_C_0 k_C_1 k_C_2 HO1 HO2 HA1 HA2 HB hN hs0
        have hN := hN_wd
        have HB := HB_wd
        have hs0 := hs0_wd
        have hl_N1 := hl_N1_wd
        have f_N1 := f_N1_wd
        have HX_N1 := HX_N1_wd
        have k_N1_0 := k_N1_0_wd
        have k_N1_1 := k_N1_1_wd
        have k_N1_2 := k_N1_2_wd
        have hl_C := hl_C_wd
        have f_C := f_C_wd
        have HX_C := HX_C_wd
        have k_C_0 := k_C_0_wd
        have k_C_1 := k_C_1_wd
        have k_C_2 := k_C_2_wd
        have HO1 := HO1_wd
        have HO2 := HO2_wd
        have HA1 := HA1_wd
        have HA2 := HA2_wd
        clear hN_wd HB_wd hs0_wd hl_N1_wd f_N1_wd HX_N1_wd k_N1_0_wd k_N1_1_wd k_N1_2_wd hl_C_wd f_C_wd HX_C_wd k_C_0_wd k_C_1_wd k_C_2_wd HO1_wd HO2_wd HA1_wd HA2_wd
        have HB1 := Lib.hid hn
        clear hn
        have HB2 := Lib.hid hn'
        clear hn'
        go_wp2_with fail
        refine calls_name fun WD hW => ?_
        have hN_WD : N ≤ WD.heap.size := by rw [← hW]; (first | omega | (simp; done) | (simp; omega))
        have hs_WD : wd.heap.size ≤ WD.heap.size := by rw [← hW]; (first | omega | (simp; done) | (simp; omega))
        have hs0_WD : w.heap.size ≤ WD.heap.size := by rw [← hW]; (first | omega | (simp; done) | (simp; omega))
        have hd_N1_D : g0 < wd.heap.size := by omega
        have hd_C_D : wc.heap.size < wd.heap.size := by omega
        have hl_N1_WD : g0 < WD.heap.size := by rw [← hW]; (first | omega | (simp; done) | (simp; omega))
        have k_N1_0_WD : WD.cell? ⟨g0, 0, none⟩ = some (.bool (decide ((po).num < 0))) := by rw [← hW]; (first | with_reducible exact k_N1_0 | (simp [go_sem, k_N1_0]; done) | (simp [go_sem, k_N1_0, hl_N1]; done) | (go_simp; done) | (simp [go_sem, k_N1_0, k_N1_1, k_N1_2, k_C_0, k_C_1, k_C_2, f_N1, f_C, hl_N1, hl_C]; done))
        have k_N1_1_WD : WD.cell? ⟨g0, 1, none⟩ = some (.slice ro (nlen (po).num.natAbs) co) := by rw [← hW]; (first | with_reducible exact k_N1_1 | (simp [go_sem, k_N1_1]; done) | (simp [go_sem, k_N1_1, hl_N1]; done) | (go_simp; done) | (simp [go_sem, k_N1_0, k_N1_1, k_N1_2, k_C_0, k_C_1, k_C_2, f_N1, f_C, hl_N1, hl_C]; done))
        have k_N1_2_WD : WD.cell? ⟨g0, 2, none⟩ = some (.slice ro2 (nlen (po).den) co2) := by rw [← hW]; (first | with_reducible exact k_N1_2 | (simp [go_sem, k_N1_2]; done) | (simp [go_sem, k_N1_2, hl_N1]; done) | (go_simp; done) | (simp [go_sem, k_N1_0, k_N1_1, k_N1_2, k_C_0, k_C_1, k_C_2, f_N1, f_C, hl_N1, hl_C]; done))
        have f_N1_WD : ∀ o, WD.frozen? ⟨g0, o, none⟩ = false := by intro o; rw [← hW]; (first | with_reducible exact f_N1 o | (simp [go_sem, f_N1]; done) | (simp [go_sem, f_N1, hl_N1]; done) | (go_simp; done) | (simp [go_sem, k_N1_0, k_N1_1, k_N1_2, k_C_0, k_C_1, k_C_2, f_N1, f_C, hl_N1, hl_C]; done))
        have HX_N1_WD := Lib.hid (show Bn WD (g0) by rw [← hW]; (repeat' (first | with_reducible exact Kp.refl _ _ | with_reducible exact HX_N1.out | with_reducible exact HX_C.out | with_reducible apply Kp.alloc | with_reducible apply Kp.drew | (with_reducible refine Kp.put ?_ ?_ ?_ _; rotate_left; (focus (first | omega | (simp; done) | (simp; omega))); rotate_left) | (with_reducible refine Bn.new _ _ _ _ ?_ ?_; (focus (first | omega | (simp; done) | (simp; omega))); decide) | with_reducible apply Bn.alloc | with_reducible apply Bn.drew | with_reducible apply Bn.set)))
        have hl_C_WD : wc.heap.size < WD.heap.size := by rw [← hW]; (first | omega | (simp; done) | (simp; omega))
        have k_C_0_WD : WD.cell? ⟨wc.heap.size, 0, none⟩ = some (.bool (decide ((q).num < 0))) := by rw [← hW]; (first | with_reducible exact k_C_0 | (simp [go_sem, k_C_0]; done) | (simp [go_sem, k_C_0, hl_C]; done) | (go_simp; done) | (simp [go_sem, k_N1_0, k_N1_1, k_N1_2, k_C_0, k_C_1, k_C_2, f_N1, f_C, hl_N1, hl_C]; done))
        have k_C_1_WD : WD.cell? ⟨wc.heap.size, 1, none⟩ = some (.slice ra (nlen (q).num.natAbs) ca) := by rw [← hW]; (first | with_reducible exact k_C_1 | (simp [go_sem, k_C_1]; done) | (simp [go_sem, k_C_1, hl_C]; done) | (go_simp; done) | (simp [go_sem, k_N1_0, k_N1_1, k_N1_2, k_C_0, k_C_1, k_C_2, f_N1, f_C, hl_N1, hl_C]; done))
        have k_C_2_WD : WD.cell? ⟨wc.heap.size, 2, none⟩ = some (.slice ra2 (nlen (q).den) ca2) := by rw [← hW]; (first | with_reducible exact k_C_2 | (simp [go_sem, k_C_2]; done) | (simp [go_sem, k_C_2, hl_C]; done) | (go_simp; done) | (simp [go_sem, k_N1_0, k_N1_1, k_N1_2, k_C_0, k_C_1, k_C_2, f_N1, f_C, hl_N1, hl_C]; done))
        have f_C_WD : ∀ o, WD.frozen? ⟨wc.heap.size, o, none⟩ = false := by intro o; rw [← hW]; (first | with_reducible exact f_C o | (simp [go_sem, f_C]; done) | (simp [go_sem, f_C, hl_C]; done) | (go_simp; done) | (simp [go_sem, k_N1_0, k_N1_1, k_N1_2, k_C_0, k_C_1, k_C_2, f_N1, f_C, hl_N1, hl_C]; done))
        have HX_C_WD := Lib.hid (show Bn WD (wc.heap.size) by rw [← hW]; (repeat' (first | with_reducible exact Kp.refl _ _ | with_reducible exact HX_N1.out | with_reducible exact HX_C.out | with_reducible apply Kp.alloc | with_reducible apply Kp.drew | (with_reducible refine Kp.put ?_ ?_ ?_ _; rotate_left; (focus (first | omega | (simp; done) | (simp; omega))); rotate_left) | (with_reducible refine Bn.new _ _ _ _ ?_ ?_; (focus (first | omega | (simp; done) | (simp; omega))); decide) | with_reducible apply Bn.alloc | with_reducible apply Bn.drew | with_reducible apply Bn.set)))
        have hl_D_WD : wd.heap.size < WD.heap.size := by rw [← hW]; (first | omega | (simp; done) | (simp; omega))
        have k_D_0_WD : WD.cell? ⟨wd.heap.size, 0, none⟩ = some (.bool (decide ((q).num < 0))) := by rw [← hW]; (first | (go_simp; done) | (simp; done) | (simp [go_sem]; done) | (simp [go_sem, k_N1_0, k_N1_1, k_N1_2, k_C_0, k_C_1, k_C_2, f_N1, f_C, hl_N1, hl_C]; done))
        have k_D_1_WD : WD.cell? ⟨wd.heap.size, 1, none⟩ = some (.slice rb (nlen (q).num.natAbs) cb) := by rw [← hW]; (first | (go_simp; done) | (simp; done) | (simp [go_sem]; done) | (simp [go_sem, k_N1_0, k_N1_1, k_N1_2, k_C_0, k_C_1, k_C_2, f_N1, f_C, hl_N1, hl_C]; done))
        have k_D_2_WD : WD.cell? ⟨wd.heap.size, 2, none⟩ = some (.slice rb2 (nlen (q).den) cb2) := by rw [← hW]; (first | (go_simp; done) | (simp; done) | (simp [go_sem]; done) | (simp [go_sem, k_N1_0, k_N1_1, k_N1_2, k_C_0, k_C_1, k_C_2, f_N1, f_C, hl_N1, hl_C]; done))
        have f_D_WD : ∀ o, WD.frozen? ⟨wd.heap.size, o, none⟩ = false := by intro o; rw [← hW]; (first | (go_simp; done) | (simp; done) | (simp [go_sem]; done) | (simp [go_sem, k_N1_0, k_N1_1, k_N1_2, k_C_0, k_C_1, k_C_2, f_N1, f_C, hl_N1, hl_C]; done))
        have HX_D_WD := Lib.hid (show Bn WD (wd.heap.size) by rw [← hW]; (repeat' (first | with_reducible exact Kp.refl _ _ | with_reducible exact HX_N1.out | with_reducible exact HX_C.out | with_reducible apply Kp.alloc | with_reducible apply Kp.drew | (with_reducible refine Kp.put ?_ ?_ ?_ _; rotate_left; (focus (first | omega | (simp; done) | (simp; omega))); rotate_left) | (with_reducible refine Bn.new _ _ _ _ ?_ ?_; (focus (first | omega | (simp; done) | (simp; omega))); decide) | with_reducible apply Bn.alloc | with_reducible apply Bn.drew | with_reducible apply Bn.set)))
        have HK_WD := Lib.hid (show Kp N wd WD by rw [← hW]; (repeat' (first | with_reducible exact Kp.refl _ _ | with_reducible exact HX_N1.out | with_reducible exact HX_C.out | with_reducible apply Kp.alloc | with_reducible apply Kp.drew | (with_reducible refine Kp.put ?_ ?_ ?_ _; rotate_left; (focus (first | omega | (simp; done) | (simp; omega))); rotate_left) | (with_reducible refine Bn.new _ _ _ _ ?_ ?_; (focus (first | omega | (simp; done) | (simp; omega))); decide) | with_reducible apply Bn.alloc | with_reducible apply Bn.drew | with_reducible apply Bn.set)))
        have HO1_WD := Lib.hid (HO1.out.keep HK_WD.out)
        have HO2_WD := Lib.hid (HO2.out.keep HK_WD.out)
        have HA1_WD := Lib.hid (HA1.out.keep HK_WD.out)
        have HA2_WD := Lib.hid (HA2.out.keep HK_WD.out)
        have HB1_WD := Lib.hid (HB1.out.keep HK_WD.out)
        have HB2_WD := Lib.hid (HB2.out.keep HK_WD.out)
        have HB_WD := Lib.hid (show Below w.heap.size w WD by rw [← hW]; (repeat' (first | with_reducible exact Below.refl _ _ | with_reducible exact HB.out | (with_reducible refine Below.alloc ?_ ?_ _; rotate_left; (focus (first | omega | (simp; done) | (simp; omega)))) | with_reducible apply Below.drew | (with_reducible refine Below.setCell ?_ ?_ _; rotate_left; (focus (first | omega | (simp; done) | (simp; omega)))))))
        clear hW HK_WD
        clear hl_N1 f_N1 HX_N1 k_N1_0 k_N1_1 k_N1_2 hl_C f_C HX_C k_C_0 k_C_1 k_C_2 HO1 HO2 HA1 HA2 HB1 HB2 HB hN hs0
        have hN := hN_WD
        have HB := HB_WD
        have hs0 := hs0_WD
        have hl_N1 := hl_N1_WD
        have f_N1 := f_N1_WD
        have HX_N1 := HX_N1_WD
        have k_N1_0 := k_N1_0_WD
        have k_N1_1 := k_N1_1_WD
        have k_N1_2 := k_N1_2_WD
        have hl_C := hl_C_WD
        have f_C := f_C_WD
        have HX_C := HX_C_WD
        have k_C_0 := k_C_0_WD
        have k_C_1 := k_C_1_WD
        have k_C_2 := k_C_2_WD
        have hl_D := hl_D_WD
        have f_D := f_D_WD
        have HX_D := HX_D_WD
        have k_D_0 := k_D_0_WD
        have k_D_1 := k_D_1_WD
        have k_D_2 := k_D_2_WD
        have HO1 := HO1_WD
        have HO2 := HO2_WD
        have HA1 := HA1_WD
        have HA2 := HA2_WD
        have HB1 := HB1_WD
        have HB2 := HB2_WD
        clear hN_WD HB_WD hs0_WD hl_N1_WD f_N1_WD HX_N1_WD k_N1_0_WD k_N1_1_WD k_N1_2_WD hl_C_WD f_C_WD HX_C_WD k_C_0_WD k_C_1_WD k_C_2_WD hl_D_WD f_D_WD HX_D_WD k_D_0_WD k_D_1_WD k_D_2_WD HO1_WD HO2_WD HA1_WD HA2_WD HB1_WD HB2_WD
        refine (same25_any (N := N) _ _ _ _ _ _ q.num.natAbs _ q.den _ _ _ _ _ HA1.out HA2.out HB1.out HB2.out).mono ?_
        rintro e we ⟨rfl, hb⟩
        have hN_we : N ≤ we.heap.size := Nat.le_trans hN hb.size
        have hs_we : WD.heap.size ≤ we.heap.size := hb.size
        have hs0_we : w.heap.size ≤ we.heap.size := Nat.le_trans hs0 hb.size
        have hl_N1_we : g0 < we.heap.size := Nat.lt_of_lt_of_le hl_N1 hb.size
        have k_N1_0_we : we.cell? ⟨g0, 0, none⟩ = some (.bool (decide ((po).num < 0))) := (hb.cell (p := ⟨g0, 0, none⟩) hl_N1).trans k_N1_0
        have k_N1_1_we : we.cell? ⟨g0, 1, none⟩ = some (.slice ro (nlen (po).num.natAbs) co) := (hb.cell (p := ⟨g0, 1, none⟩) hl_N1).trans k_N1_1
        have k_N1_2_we : we.cell? ⟨g0, 2, none⟩ = some (.slice ro2 (nlen (po).den) co2) := (hb.cell (p := ⟨g0, 2, none⟩) hl_N1).trans k_N1_2
        have f_N1_we : ∀ o, we.frozen? ⟨g0, o, none⟩ = false := fun o => (hb.frozen (p := ⟨g0, o, none⟩) hl_N1).trans (f_N1 o)
        have HX_N1_we := Lib.hid (HX_N1.out.below hb)
        have hl_C_we : wc.heap.size < we.heap.size := Nat.lt_of_lt_of_le hl_C hb.size
        have k_C_0_we : we.cell? ⟨wc.heap.size, 0, none⟩ = some (.bool (decide ((q).num < 0))) := (hb.cell (p := ⟨wc.heap.size, 0, none⟩) hl_C).trans k_C_0
        have k_C_1_we : we.cell? ⟨wc.heap.size, 1, none⟩ = some (.slice ra (nlen (q).num.natAbs) ca) := (hb.cell (p := ⟨wc.heap.size, 1, none⟩) hl_C).trans k_C_1
        have k_C_2_we : we.cell? ⟨wc.heap.size, 2, none⟩ = some (.slice ra2 (nlen (q).den) ca2) := (hb.cell (p := ⟨wc.heap.size, 2, none⟩) hl_C).trans k_C_2
        have f_C_we : ∀ o, we.frozen? ⟨wc.heap.size, o, none⟩ = false := fun o => (hb.frozen (p := ⟨wc.heap.size, o, none⟩) hl_C).trans (f_C o)
        have HX_C_we := Lib.hid (HX_C.out.below hb)
        have hl_D_we : wd.heap.size < we.heap.size := Nat.lt_of_lt_of_le hl_D hb.size
        have k_D_0_we : we.cell? ⟨wd.heap.size, 0, none⟩ = some (.bool (decide ((q).num < 0))) := (hb.cell (p := ⟨wd.heap.size, 0, none⟩) hl_D).trans k_D_0
        have k_D_1_we : we.cell? ⟨wd.heap.size, 1, none⟩ = some (.slice rb (nlen (q).num.natAbs) cb) := (hb.cell (p := ⟨wd.heap.size, 1, none⟩) hl_D).trans k_D_1
        have k_D_2_we : we.cell? ⟨wd.heap.size, 2, none⟩ = some (.slice rb2 (nlen (q).den) cb2) := (hb.cell (p := ⟨wd.heap.size, 2, none⟩) hl_D).trans k_D_2
        have f_D_we : ∀ o, we.frozen? ⟨wd.heap.size, o, none⟩ = false := fun o => (hb.frozen (p := ⟨wd.heap.size, o, none⟩) hl_D).trans (f_D o)
        have HX_D_we := Lib.hid (HX_D.out.below hb)
        have HO1_we := Lib.hid (HO1.out.below hb)
        have HO2_we := Lib.hid (HO2.out.below hb)
        have HA1_we := Lib.hid (HA1.out.below hb)
        have HA2_we := Lib.hid (HA2.out.below hb)
        have HB1_we := Lib.hid (HB1.out.below hb)
        have HB2_we := Lib.hid (HB2.out.below hb)
        have HB_we := Lib.hid (HB.out.trans (hb.mono hs0))
        clear hb
        clear hl_N1 f_N1 HX_N1 k_N1_0 k_N1_1 k_N1_2 hl_C f_C HX_C k_C_0 k_C_1 k_C_2 hl_D f_D HX_D k_D_0 k_D_1 k_D_2 HO1 HO2 HA1 HA2 HB1 HB2 HB hN hs0
        have hN := hN_we
        have HB := HB_we
        have hs0 := hs0_we
        have hl_N1 := hl_N1_we
        have f_N1 := f_N1_we
        have HX_N1 := HX_N1_we
        have k_N1_0 := k_N1_0_we
        have k_N1_1 := k_N1_1_we
        have k_N1_2 := k_N1_2_we
        have hl_C := hl_C_we
        have f_C := f_C_we
        have HX_C := HX_C_we
        have k_C_0 := k_C_0_we
        have k_C_1 := k_C_1_we
        have k_C_2 := k_C_2_we
        have hl_D := hl_D_we
        have f_D := f_D_we
        have HX_D := HX_D_we
        have k_D_0 := k_D_0_we
        have k_D_1 := k_D_1_we
        have k_D_2 := k_D_2_we
        have HO1 := HO1_we
        have HO2 := HO2_we
        have HA1 := HA1_we
        have HA2 := HA2_we
        have HB1 := HB1_we
        have HB2 := HB2_we
        clear hN_we HB_we hs0_we hl_N1_we f_N1_we HX_N1_we k_N1_0_we k_N1_1_we k_N1_2_we hl_C_we f_C_we HX_C_we k_C_0_we k_C_1_we k_C_2_we hl_D_we f_D_we HX_D_we k_D_0_we k_D_1_we k_D_2_we HO1_we HO2_we HA1_we HA2_we HB1_we HB2_we
        go_wp2_with fail
        refine (ratPrint_any (N := N) _ _ _ _ _ _ _ 1000 q _ hN (Rt.of_norm HA1.out HA2.out 1000 Zq.out) (by omega) (HTab.out.below HB.out)).mono ?_
        rintro e wf ⟨l, rfl, l0, _, hb⟩
        have hN_wf : N ≤ wf.heap.size := Nat.le_trans hN hb.size
        have hs_wf : we.heap.size ≤ wf.heap.size := hb.size
        have hs0_wf : w.heap.size ≤ wf.heap.size := Nat.le_trans hs0 hb.size
        have hl_N1_wf : g0 < wf.heap.size := Nat.lt_of_lt_of_le hl_N1 hb.size
        have k_N1_0_wf : wf.cell? ⟨g0, 0, none⟩ = some (.bool (decide ((po).num < 0))) := (hb.cell (p := ⟨g0, 0, none⟩) hl_N1).trans k_N1_0
        have k_N1_1_wf : wf.cell? ⟨g0, 1, none⟩ = some (.slice ro (nlen (po).num.natAbs) co) := (hb.cell (p := ⟨g0, 1, none⟩) hl_N1).trans k_N1_1
        have k_N1_2_wf : wf.cell? ⟨g0, 2, none⟩ = some (.slice ro2 (nlen (po).den) co2) := (hb.cell (p := ⟨g0, 2, none⟩) hl_N1).trans k_N1_2
        have f_N1_wf : ∀ o, wf.frozen? ⟨g0, o, none⟩ = false := fun o => (hb.frozen (p := ⟨g0, o, none⟩) hl_N1).trans (f_N1 o)
        have HX_N1_wf := Lib.hid (HX_N1.out.below hb)
        have hl_C_wf : wc.heap.size < wf.heap.size := Nat.lt_of_lt_of_le hl_C hb.size
        have k_C_0_wf : wf.cell? ⟨wc.heap.size, 0, none⟩ = some (.bool (decide ((q).num < 0))) := (hb.cell (p := ⟨wc.heap.size, 0, none⟩) hl_C).trans k_C_0
        have k_C_1_wf : wf.cell? ⟨wc.heap.size, 1, none⟩ = some (.slice ra (nlen (q).num.natAbs) ca) := (hb.cell (p := ⟨wc.heap.size, 1, none⟩) hl_C).trans k_C_1
        have k_C_2_wf : wf.cell? ⟨wc.heap.size, 2, none⟩ = some (.slice ra2 (nlen (q).den) ca2) := (hb.cell (p := ⟨wc.heap.size, 2, none⟩) hl_C).trans k_C_2
        have f_C_wf : ∀ o, wf.frozen? ⟨wc.heap.size, o, none⟩ = false := fun o => (hb.frozen (p := ⟨wc.heap.size, o, none⟩) hl_C).trans (f_C o)
        have HX_C_wf := Lib.hid (HX_C.out.below hb)
        have hl_D_wf : wd.heap.size < wf.heap.size := Nat.lt_of_lt_of_le hl_D hb.size
        have k_D_0_wf : wf.cell? ⟨wd.heap.size, 0, none⟩ = some (.bool (decide ((q).num < 0))) := (hb.cell (p := ⟨wd.heap.size, 0, none⟩) hl_D).trans k_D_0
        have k_D_1_wf : wf.cell? ⟨wd.heap.size, 1, none⟩ = some (.slice rb (nlen (q).num.natAbs) cb) := (hb.cell (p := ⟨wd.heap.size, 1, none⟩) hl_D).trans k_D_1
        have k_D_2_wf : wf.cell? ⟨wd.heap.size, 2, none⟩ = some (.slice rb2 (nlen (q).den) cb2) := (hb.cell (p := ⟨wd.heap.size, 2, none⟩) hl_D).trans k_D_2
        have f_D_wf : ∀ o, wf.frozen? ⟨wd.heap.size, o, none⟩ = false := fun o => (hb.frozen (p := ⟨wd.heap.size, o, none⟩) hl_D).trans (f_D o)
        have HX_D_wf := Lib.hid (HX_D.out.below hb)
        have HO1_wf := Lib.hid (HO1.out.below hb)
        have HO2_wf := Lib.hid (HO2.out.below hb)
        have HA1_wf := Lib.hid (HA1.out.below hb)
        have HA2_wf := Lib.hid (HA2.out.below hb)
        have HB1_wf := Lib.hid (HB1.out.below hb)
        have HB2_wf := Lib.hid (HB2.out.below hb)
        have HB_wf := Lib.hid (HB.out.trans (hb.mono hs0))
        clear hb
        clear hl_N1 f_N1 HX_N1 k_N1_0 k_N1_1 k_N1_2 hl_C f_C HX_C k_C_0 k_C_1 k_C_2 hl_D f_D HX_D k_D_0 k_D_1 k_D_2 HO1 HO2 HA1 HA2 HB1 HB2 HB hN hs0
        have hN := hN_wf
        have HB := HB_wf
        have hs0 := hs0_wf
        have hl_N1 := hl_N1_wf
        have f_N1 := f_N1_wf
        have HX_N1 := HX_N1_wf
        have k_N1_0 := k_N1_0_wf
        have k_N1_1 := k_N1_1_wf
        have k_N1_2 := k_N1_2_wf
        have hl_C := hl_C_wf
        have f_C := f_C_wf
        have HX_C := HX_C_wf
        have k_C_0 := k_C_0_wf
        have k_C_1 := k_C_1_wf
        have k_C_2 := k_C_2_wf
        have hl_D := hl_D_wf
        have f_D := f_D_wf
        have HX_D := HX_D_wf
        have k_D_0 := k_D_0_wf
        have k_D_1 := k_D_1_wf
        have k_D_2 := k_D_2_wf
        have HO1 := HO1_wf
        have HO2 := HO2_wf
        have HA1 := HA1_wf
        have HA2 := HA2_wf
        have HB1 := HB1_wf
        have HB2 := HB2_wf
        clear hN_wf HB_wf hs0_wf hl_N1_wf f_N1_wf HX_N1_wf k_N1_0_wf k_N1_1_wf k_N1_2_wf hl_C_wf f_C_wf HX_C_wf k_C_0_wf k_C_1_wf k_C_2_wf hl_D_wf f_D_wf HX_D_wf k_D_0_wf k_D_1_wf k_D_2_wf HO1_wf HO2_wf HA1_wf HA2_wf HB1_wf HB2_wf
        obtain ⟨sv, hsv⟩ : ∃ sv : ByteArray, (⟨l.toArray⟩ : ByteArray) = sv := ⟨_, rfl⟩
        rw [hsv]
        have hne : sv.toList ≠ [] := by rw [← hsv, ByteArray.toList_eq]; intro e; rw [show l = [] by simpa using e] at l0; exact absurd l0 (by decide)
        have hs1 : (sv.toList == []) = false := by simpa using hne
        have hs2 : sv.toList.isEmpty = false := by simpa using hne
        have hs3 : (sv.toList == ByteArray.toList ⟨#[]⟩) = false := by rw [ByteArray.toList_eq ⟨#[]⟩]; simpa using hne
        clear hsv
        go_wp2_with fail
        refine (rsign_any (N := N) _ _ _ _ _ _ _ 1000 q _ hN (Rt.of_norm HA1.out HA2.out 1000 Zq.out)).mono ?_
        rw [HSG.out]
        rintro e wg ⟨rfl, hb⟩
        have hN_wg : N ≤ wg.heap.size := Nat.le_trans hN hb.size
        have hs_wg : wf.heap.size ≤ wg.heap.size := hb.size
        have hs0_wg : w.heap.size ≤ wg.heap.size := Nat.le_trans hs0 hb.size
        have hl_N1_wg : g0 < wg.heap.size := Nat.lt_of_lt_of_le hl_N1 hb.size
        have k_N1_0_wg : wg.cell? ⟨g0, 0, none⟩ = some (.bool (decide ((po).num < 0))) := (hb.cell (p := ⟨g0, 0, none⟩) hl_N1).trans k_N1_0
        have k_N1_1_wg : wg.cell? ⟨g0, 1, none⟩ = some (.slice ro (nlen (po).num.natAbs) co) := (hb.cell (p := ⟨g0, 1, none⟩) hl_N1).trans k_N1_1
        have k_N1_2_wg : wg.cell? ⟨g0, 2, none⟩ = some (.slice ro2 (nlen (po).den) co2) := (hb.cell (p := ⟨g0, 2, none⟩) hl_N1).trans k_N1_2
        have f_N1_wg : ∀ o, wg.frozen? ⟨g0, o, none⟩ = false := fun o => (hb.frozen (p := ⟨g0, o, none⟩) hl_N1).trans (f_N1 o)
        have HX_N1_wg := Lib.hid (HX_N1.out.below hb)
        have hl_C_wg : wc.heap.size < wg.heap.size := Nat.lt_of_lt_of_le hl_C hb.size
        have k_C_0_wg : wg.cell? ⟨wc.heap.size, 0, none⟩ = some (.bool (decide ((q).num < 0))) := (hb.cell (p := ⟨wc.heap.size, 0, none⟩) hl_C).trans k_C_0
        have k_C_1_wg : wg.cell? ⟨wc.heap.size, 1, none⟩ = some (.slice ra (nlen (q).num.natAbs) ca) := (hb.cell (p := ⟨wc.heap.size, 1, none⟩) hl_C).trans k_C_1
        have k_C_2_wg : wg.cell? ⟨wc.heap.size, 2, none⟩ = some (.slice ra2 (nlen (q).den) ca2) := (hb.cell (p := ⟨wc.heap.size, 2, none⟩) hl_C).trans k_C_2
        have f_C_wg : ∀ o, wg.frozen? ⟨wc.heap.size, o, none⟩ = false := fun o => (hb.frozen (p := ⟨wc.heap.size, o, none⟩) hl_C).trans (f_C o)
        have HX_C_wg := Lib.hid (HX_C.out.below hb)
        have hl_D_wg : wd.heap.size < wg.heap.size := Nat.lt_of_lt_of_le hl_D hb.size
        have k_D_0_wg : wg.cell? ⟨wd.heap.size, 0, none⟩ = some (.bool (decide ((q).num < 0))) := (hb.cell (p := ⟨wd.heap.size, 0, none⟩) hl_D).trans k_D_0
        have k_D_1_wg : wg.cell? ⟨wd.heap.size, 1, none⟩ = some (.slice rb (nlen (q).num.natAbs) cb) := (hb.cell (p := ⟨wd.heap.size, 1, none⟩) hl_D).trans k_D_1
        have k_D_2_wg : wg.cell? ⟨wd.heap.size, 2, none⟩ = some (.slice rb2 (nlen (q).den) cb2) := (hb.cell (p := ⟨wd.heap.size, 2, none⟩) hl_D).trans k_D_2
        have f_D_wg : ∀ o, wg.frozen? ⟨wd.heap.size, o, none⟩ = false := fun o => (hb.frozen (p := ⟨wd.heap.size, o, none⟩) hl_D).trans (f_D o)
        have HX_D_wg := Lib.hid (HX_D.out.below hb)
        have HO1_wg := Lib.hid (HO1.out.below hb)
        have HO2_wg := Lib.hid (HO2.out.below hb)
        have HA1_wg := Lib.hid (HA1.out.below hb)
        have HA2_wg := Lib.hid (HA2.out.below hb)
        have HB1_wg := Lib.hid (HB1.out.below hb)
        have HB2_wg := Lib.hid (HB2.out.below hb)
        have HB_wg := Lib.hid (HB.out.trans (hb.mono hs0))
        clear hb
        clear hl_N1 f_N1 HX_N1 k_N1_0 k_N1_1 k_N1_2 hl_C f_C HX_C k_C_0 k_C_1 k_C_2 hl_D f_D HX_D k_D_0 k_D_1 k_D_2 HO1 HO2 HA1 HA2 HB1 HB2 HB hN hs0
        have hN := hN_wg
        have HB := HB_wg
        have hs0 := hs0_wg
        have hl_N1 := hl_N1_wg
        have f_N1 := f_N1_wg
        have HX_N1 := HX_N1_wg
        have k_N1_0 := k_N1_0_wg
        have k_N1_1 := k_N1_1_wg
        have k_N1_2 := k_N1_2_wg
        have hl_C := hl_C_wg
        have f_C := f_C_wg
        have HX_C := HX_C_wg
        have k_C_0 := k_C_0_wg
        have k_C_1 := k_C_1_wg
        have k_C_2 := k_C_2_wg
        have hl_D := hl_D_wg
        have f_D := f_D_wg
        have HX_D := HX_D_wg
        have k_D_0 := k_D_0_wg
        have k_D_1 := k_D_1_wg
        have k_D_2 := k_D_2_wg
        have HO1 := HO1_wg
        have HO2 := HO2_wg
        have HA1 := HA1_wg
        have HA2 := HA2_wg
        have HB1 := HB1_wg
        have HB2 := HB2_wg
        clear hN_wg HB_wg hs0_wg hl_N1_wg f_N1_wg HX_N1_wg k_N1_0_wg k_N1_1_wg k_N1_2_wg hl_C_wg f_C_wg HX_C_wg k_C_0_wg k_C_1_wg k_C_2_wg hl_D_wg f_D_wg HX_D_wg k_D_0_wg k_D_1_wg k_D_2_wg HO1_wg HO2_wg HA1_wg HA2_wg HB1_wg HB2_wg
        go_wp2_with fail
        refine (rcmp_any (N := N) _ _ _ _ _ _ _ _ _ _ _ _ _ _ 1000 2 q po _ hN (Rt.of_norm HA1.out HA2.out 1000 Zq.out) (Rt.of_norm HO1.out HO2.out 2 Zpo.out) (by omega) (by omega)).mono ?_
        rw [HKA.out]
        rintro e wh ⟨rfl, hb⟩
        have hN_wh : N ≤ wh.heap.size := Nat.le_trans hN hb.size
        have hs_wh : wg.heap.size ≤ wh.heap.size := hb.size
        have hs0_wh : w.heap.size ≤ wh.heap.size := Nat.le_trans hs0 hb.size
        have hl_N1_wh : g0 < wh.heap.size := Nat.lt_of_lt_of_le hl_N1 hb.size
        have k_N1_0_wh : wh.cell? ⟨g0, 0, none⟩ = some (.bool (decide ((po).num < 0))) := (hb.cell (p := ⟨g0, 0, none⟩) hl_N1).trans k_N1_0
        have k_N1_1_wh : wh.cell? ⟨g0, 1, none⟩ = some (.slice ro (nlen (po).num.natAbs) co) := (hb.cell (p := ⟨g0, 1, none⟩) hl_N1).trans k_N1_1
        have k_N1_2_wh : wh.cell? ⟨g0, 2, none⟩ = some (.slice ro2 (nlen (po).den) co2) := (hb.cell (p := ⟨g0, 2, none⟩) hl_N1).trans k_N1_2
        have f_N1_wh : ∀ o, wh.frozen? ⟨g0, o, none⟩ = false := fun o => (hb.frozen (p := ⟨g0, o, none⟩) hl_N1).trans (f_N1 o)
        have HX_N1_wh := Lib.hid (HX_N1.out.below hb)
        have hl_C_wh : wc.heap.size < wh.heap.size := Nat.lt_of_lt_of_le hl_C hb.size
        have k_C_0_wh : wh.cell? ⟨wc.heap.size, 0, none⟩ = some (.bool (decide ((q).num < 0))) := (hb.cell (p := ⟨wc.heap.size, 0, none⟩) hl_C).trans k_C_0
        have k_C_1_wh : wh.cell? ⟨wc.heap.size, 1, none⟩ = some (.slice ra (nlen (q).num.natAbs) ca) := (hb.cell (p := ⟨wc.heap.size, 1, none⟩) hl_C).trans k_C_1
        have k_C_2_wh : wh.cell? ⟨wc.heap.size, 2, none⟩ = some (.slice ra2 (nlen (q).den) ca2) := (hb.cell (p := ⟨wc.heap.size, 2, none⟩) hl_C).trans k_C_2
        have f_C_wh : ∀ o, wh.frozen? ⟨wc.heap.size, o, none⟩ = false := fun o => (hb.frozen (p := ⟨wc.heap.size, o, none⟩) hl_C).trans (f_C o)
        have HX_C_wh := Lib.hid (HX_C.out.below hb)
        have hl_D_wh : wd.heap.size < wh.heap.size := Nat.lt_of_lt_of_le hl_D hb.size
        have k_D_0_wh : wh.cell? ⟨wd.heap.size, 0, none⟩ = some (.bool (decide ((q).num < 0))) := (hb.cell (p := ⟨wd.heap.size, 0, none⟩) hl_D).trans k_D_0
        have k_D_1_wh : wh.cell? ⟨wd.heap.size, 1, none⟩ = some (.slice rb (nlen (q).num.natAbs) cb) := (hb.cell (p := ⟨wd.heap.size, 1, none⟩) hl_D).trans k_D_1
        have k_D_2_wh : wh.cell? ⟨wd.heap.size, 2, none⟩ = some (.slice rb2 (nlen (q).den) cb2) := (hb.cell (p := ⟨wd.heap.size, 2, none⟩) hl_D).trans k_D_2
        have f_D_wh : ∀ o, wh.frozen? ⟨wd.heap.size, o, none⟩ = false := fun o => (hb.frozen (p := ⟨wd.heap.size, o, none⟩) hl_D).trans (f_D o)
        have HX_D_wh := Lib.hid (HX_D.out.below hb)
        have HO1_wh := Lib.hid (HO1.out.below hb)
        have HO2_wh := Lib.hid (HO2.out.below hb)
        have HA1_wh := Lib.hid (HA1.out.below hb)
        have HA2_wh := Lib.hid (HA2.out.below hb)
        have HB1_wh := Lib.hid (HB1.out.below hb)
        have HB2_wh := Lib.hid (HB2.out.below hb)
        have HB_wh := Lib.hid (HB.out.trans (hb.mono hs0))
        clear hb
        clear hl_N1 f_N1 HX_N1 k_N1_0 k_N1_1 k_N1_2 hl_C f_C HX_C k_C_0 k_C_1 k_C_2 hl_D f_D HX_D k_D_0 k_D_1 k_D_2 HO1 HO2 HA1 HA2 HB1 HB2 HB hN hs0
        have hN := hN_wh
        have HB := HB_wh
        have hs0 := hs0_wh
        have hl_N1 := hl_N1_wh
        have f_N1 := f_N1_wh
        have HX_N1 := HX_N1_wh
        have k_N1_0 := k_N1_0_wh
        have k_N1_1 := k_N1_1_wh
        have k_N1_2 := k_N1_2_wh
        have hl_C := hl_C_wh
        have f_C := f_C_wh
        have HX_C := HX_C_wh
        have k_C_0 := k_C_0_wh
        have k_C_1 := k_C_1_wh
        have k_C_2 := k_C_2_wh
        have hl_D := hl_D_wh
        have f_D := f_D_wh
        have HX_D := HX_D_wh
        have k_D_0 := k_D_0_wh
        have k_D_1 := k_D_1_wh
        have k_D_2 := k_D_2_wh
        have HO1 := HO1_wh
        have HO2 := HO2_wh
        have HA1 := HA1_wh
        have HA2 := HA2_wh
        have HB1 := HB1_wh
        have HB2 := HB2_wh
        clear hN_wh HB_wh hs0_wh hl_N1_wh f_N1_wh HX_N1_wh k_N1_0_wh k_N1_1_wh k_N1_2_wh hl_C_wh f_C_wh HX_C_wh k_C_0_wh k_C_1_wh k_C_2_wh hl_D_wh f_D_wh HX_D_wh k_D_0_wh k_D_1_wh k_D_2_wh HO1_wh HO2_wh HA1_wh HA2_wh HB1_wh HB2_wh
        go_wp2_with fail
        refine (rsign_any (N := N) _ _ _ _ _ _ _ 1000 q _ hN (Rt.of_norm HA1.out HA2.out 1000 Zq.out)).mono ?_
        rw [HSG.out]
        rintro e wi ⟨rfl, hb⟩
        have hN_wi : N ≤ wi.heap.size := Nat.le_trans hN hb.size
        have hs_wi : wh.heap.size ≤ wi.heap.size := hb.size
        have hs0_wi : w.heap.size ≤ wi.heap.size := Nat.le_trans hs0 hb.size
        have hl_N1_wi : g0 < wi.heap.size := Nat.lt_of_lt_of_le hl_N1 hb.size
        have k_N1_0_wi : wi.cell? ⟨g0, 0, none⟩ = some (.bool (decide ((po).num < 0))) := (hb.cell (p := ⟨g0, 0, none⟩) hl_N1).trans k_N1_0
        have k_N1_1_wi : wi.cell? ⟨g0, 1, none⟩ = some (.slice ro (nlen (po).num.natAbs) co) := (hb.cell (p := ⟨g0, 1, none⟩) hl_N1).trans k_N1_1
        have k_N1_2_wi : wi.cell? ⟨g0, 2, none⟩ = some (.slice ro2 (nlen (po).den) co2) := (hb.cell (p := ⟨g0, 2, none⟩) hl_N1).trans k_N1_2
        have f_N1_wi : ∀ o, wi.frozen? ⟨g0, o, none⟩ = false := fun o => (hb.frozen (p := ⟨g0, o, none⟩) hl_N1).trans (f_N1 o)
        have HX_N1_wi := Lib.hid (HX_N1.out.below hb)
        have hl_C_wi : wc.heap.size < wi.heap.size := Nat.lt_of_lt_of_le hl_C hb.size
        have k_C_0_wi : wi.cell? ⟨wc.heap.size, 0, none⟩ = some (.bool (decide ((q).num < 0))) := (hb.cell (p := ⟨wc.heap.size, 0, none⟩) hl_C).trans k_C_0
        have k_C_1_wi : wi.cell? ⟨wc.heap.size, 1, none⟩ = some (.slice ra (nlen (q).num.natAbs) ca) := (hb.cell (p := ⟨wc.heap.size, 1, none⟩) hl_C).trans k_C_1
        have k_C_2_wi : wi.cell? ⟨wc.heap.size, 2, none⟩ = some (.slice ra2 (nlen (q).den) ca2) := (hb.cell (p := ⟨wc.heap.size, 2, none⟩) hl_C).trans k_C_2
        have f_C_wi : ∀ o, wi.frozen? ⟨wc.heap.size, o, none⟩ = false := fun o => (hb.frozen (p := ⟨wc.heap.size, o, none⟩) hl_C).trans (f_C o)
        have HX_C_wi := Lib.hid (HX_C.out.below hb)
        have hl_D_wi : wd.heap.size < wi.heap.size := Nat.lt_of_lt_of_le hl_D hb.size
        have k_D_0_wi : wi.cell? ⟨wd.heap.size, 0, none⟩ = some (.bool (decide ((q).num < 0))) := (hb.cell (p := ⟨wd.heap.size, 0, none⟩) hl_D).trans k_D_0
        have k_D_1_wi : wi.cell? ⟨wd.heap.size, 1, none⟩ = some (.slice rb (nlen (q).num.natAbs) cb) := (hb.cell (p := ⟨wd.heap.size, 1, none⟩) hl_D).trans k_D_1
        have k_D_2_wi : wi.cell? ⟨wd.heap.size, 2, none⟩ = some (.slice rb2 (nlen (q).den) cb2) := (hb.cell (p := ⟨wd.heap.size, 2, none⟩) hl_D).trans k_D_2
        have f_D_wi : ∀ o, wi.frozen? ⟨wd.heap.size, o, none⟩ = false := fun o => (hb.frozen (p := ⟨wd.heap.size, o, none⟩) hl_D).trans (f_D o)
        have HX_D_wi := Lib.hid (HX_D.out.below hb)
        have HO1_wi := Lib.hid (HO1.out.below hb)
        have HO2_wi := Lib.hid (HO2.out.below hb)
        have HA1_wi := Lib.hid (HA1.out.below hb)
        have HA2_wi := Lib.hid (HA2.out.below hb)
        have HB1_wi := Lib.hid (HB1.out.below hb)
        have HB2_wi := Lib.hid (HB2.out.below hb)
        have HB_wi := Lib.hid (HB.out.trans (hb.mono hs0))
        clear hb
        clear hl_N1 f_N1 HX_N1 k_N1_0 k_N1_1 k_N1_2 hl_C f_C HX_C k_C_0 k_C_1 k_C_2 hl_D f_D HX_D k_D_0 k_D_1 k_D_2 HO1 HO2 HA1 HA2 HB1 HB2 HB hN hs0
        have hN := hN_wi
        have HB := HB_wi
        have hs0 := hs0_wi
        have hl_N1 := hl_N1_wi
        have f_N1 := f_N1_wi
        have HX_N1 := HX_N1_wi
        have k_N1_0 := k_N1_0_wi
        have k_N1_1 := k_N1_1_wi
        have k_N1_2 := k_N1_2_wi
        have hl_C := hl_C_wi
        have f_C := f_C_wi
        have HX_C := HX_C_wi
        have k_C_0 := k_C_0_wi
        have k_C_1 := k_C_1_wi
        have k_C_2 := k_C_2_wi
        have hl_D := hl_D_wi
        have f_D := f_D_wi
        have HX_D := HX_D_wi
        have k_D_0 := k_D_0_wi
        have k_D_1 := k_D_1_wi
        have k_D_2 := k_D_2_wi
        have HO1 := HO1_wi
        have HO2 := HO2_wi
        have HA1 := HA1_wi
        have HA2 := HA2_wi
        have HB1 := HB1_wi
        have HB2 := HB2_wi
        clear hN_wi HB_wi hs0_wi hl_N1_wi f_N1_wi HX_N1_wi k_N1_0_wi k_N1_1_wi k_N1_2_wi hl_C_wi f_C_wi HX_C_wi k_C_0_wi k_C_1_wi k_C_2_wi hl_D_wi f_D_wi HX_D_wi k_D_0_wi k_D_1_wi k_D_2_wi HO1_wi HO2_wi HA1_wi HA2_wi HB1_wi HB2_wi
        go_wp2_with fail
        refine (HC3.out _ hN (HX.out.below HB.out) (HX.out.below HB.out)).mono ?_
        rintro e wj ⟨rs, cs, rs2, cs2, rfl, hn, hn', hb⟩
        have hN_wj : N ≤ wj.heap.size := Nat.le_trans hN hb.size
        have hs_wj : wi.heap.size ≤ wj.heap.size := hb.size
        have hs0_wj : w.heap.size ≤ wj.heap.size := Nat.le_trans hs0 hb.size
        have hl_N1_wj : g0 < wj.heap.size := Nat.lt_of_lt_of_le hl_N1 hb.size
        have k_N1_0_wj : wj.cell? ⟨g0, 0, none⟩ = some (.bool (decide ((po).num < 0))) := (hb.cell (p := ⟨g0, 0, none⟩) hl_N1).trans k_N1_0
        have k_N1_1_wj : wj.cell? ⟨g0, 1, none⟩ = some (.slice ro (nlen (po).num.natAbs) co) := (hb.cell (p := ⟨g0, 1, none⟩) hl_N1).trans k_N1_1
        have k_N1_2_wj : wj.cell? ⟨g0, 2, none⟩ = some (.slice ro2 (nlen (po).den) co2) := (hb.cell (p := ⟨g0, 2, none⟩) hl_N1).trans k_N1_2
        have f_N1_wj : ∀ o, wj.frozen? ⟨g0, o, none⟩ = false := fun o => (hb.frozen (p := ⟨g0, o, none⟩) hl_N1).trans (f_N1 o)
        have HX_N1_wj := Lib.hid (HX_N1.out.below hb)
        have hl_C_wj : wc.heap.size < wj.heap.size := Nat.lt_of_lt_of_le hl_C hb.size
        have k_C_0_wj : wj.cell? ⟨wc.heap.size, 0, none⟩ = some (.bool (decide ((q).num < 0))) := (hb.cell (p := ⟨wc.heap.size, 0, none⟩) hl_C).trans k_C_0
        have k_C_1_wj : wj.cell? ⟨wc.heap.size, 1, none⟩ = some (.slice ra (nlen (q).num.natAbs) ca) := (hb.cell (p := ⟨wc.heap.size, 1, none⟩) hl_C).trans k_C_1
        have k_C_2_wj : wj.cell? ⟨wc.heap.size, 2, none⟩ = some (.slice ra2 (nlen (q).den) ca2) := (hb.cell (p := ⟨wc.heap.size, 2, none⟩) hl_C).trans k_C_2
        have f_C_wj : ∀ o, wj.frozen? ⟨wc.heap.size, o, none⟩ = false := fun o => (hb.frozen (p := ⟨wc.heap.size, o, none⟩) hl_C).trans (f_C o)
        have HX_C_wj := Lib.hid (HX_C.out.below hb)
        have hl_D_wj : wd.heap.size < wj.heap.size := Nat.lt_of_lt_of_le hl_D hb.size
        have k_D_0_wj : wj.cell? ⟨wd.heap.size, 0, none⟩ = some (.bool (decide ((q).num < 0))) := (hb.cell (p := ⟨wd.heap.size, 0, none⟩) hl_D).trans k_D_0
        have k_D_1_wj : wj.cell? ⟨wd.heap.size, 1, none⟩ = some (.slice rb (nlen (q).num.natAbs) cb) := (hb.cell (p := ⟨wd.heap.size, 1, none⟩) hl_D).trans k_D_1
        have k_D_2_wj : wj.cell? ⟨wd.heap.size, 2, none⟩ = some (.slice rb2 (nlen (q).den) cb2) := (hb.cell (p := ⟨wd.heap.size, 2, none⟩) hl_D).trans k_D_2
        have f_D_wj : ∀ o, wj.frozen? ⟨wd.heap.size, o, none⟩ = false := fun o => (hb.frozen (p := ⟨wd.heap.size, o, none⟩) hl_D).trans (f_D o)
        have HX_D_wj := Lib.hid (HX_D.out.below hb)
        have HO1_wj := Lib.hid (HO1.out.below hb)
        have HO2_wj := Lib.hid (HO2.out.below hb)
        have HA1_wj := Lib.hid (HA1.out.below hb)
        have HA2_wj := Lib.hid (HA2.out.below hb)
        have HB1_wj := Lib.hid (HB1.out.below hb)
        have HB2_wj := Lib.hid (HB2.out.below hb)
        have HB_wj := Lib.hid (HB.out.trans (hb.mono hs0))
        clear hb
        clear hl_N1 f_N1 HX_N1 k_N1_0 k_N1_1 k_N1_2 hl_C f_C HX_C k_C_0 k_C_1 k_C_2 hl_D f_D HX_D k_D_0 k_D_1 k_D_2 HO1 HO2 HA1 HA2 HB1 HB2 HB hN hs0
        have hN := hN_wj
        have HB := HB_wj
        have hs0 := hs0_wj
        have hl_N1 := hl_N1_wj
        have f_N1 := f_N1_wj
        have HX_N1 := HX_N1_wj
        have k_N1_0 := k_N1_0_wj
        have k_N1_1 := k_N1_1_wj
        have k_N1_2 := k_N1_2_wj
        have hl_C := hl_C_wj
        have f_C := f_C_wj
        have HX_C := HX_C_wj
        have k_C_0 := k_C_0_wj
        have k_C_1 := k_C_1_wj
        have k_C_2 := k_C_2_wj
        have hl_D := hl_D_wj
        have f_D := f_D_wj
        have HX_D := HX_D_wj
        have k_D_0 := k_D_0_wj
        have k_D_1 := k_D_1_wj
        have k_D_2 := k_D_2_wj
        have HO1 := HO1_wj
        have HO2 := HO2_wj
        have HA1 := HA1_wj
        have HA2 := HA2_wj
        have HB1 := HB1_wj
        have HB2 := HB2_wj
        clear hN_wj HB_wj hs0_wj hl_N1_wj f_N1_wj HX_N1_wj k_N1_0_wj k_N1_1_wj k_N1_2_wj hl_C_wj f_C_wj HX_C_wj k_C_0_wj k_C_1_wj k_C_2_wj hl_D_wj f_D_wj HX_D_wj k_D_0_wj k_D_1_wj k_D_2_wj HO1_wj HO2_wj HA1_wj HA2_wj HB1_wj HB2_wj
        have HS1 := Lib.hid hn
        clear hn
        have HS2 := Lib.hid hn'
        clear hn'
        by_cases hg : g = 0
        · obtain ⟨e1, e2⟩ := HT.out hg
          obtain rfl : r = po := e2.trans HPO1.out.symm
          clear e2
          subst hg e1
          have hone : ((1 : Int) == 1) = true := rfl
          go_wp2_with fail
          refine calls_name fun WJ hW => ?_
          have hN_WJ : N ≤ WJ.heap.size := by rw [← hW]; (first | omega | (simp; done) | (simp; omega))
          have hs_WJ : wj.heap.size ≤ WJ.heap.size := by rw [← hW]; (first | omega | (simp; done) | (simp; omega))
          have hs0_WJ : w.heap.size ≤ WJ.heap.size := by rw [← hW]; (first | omega | (simp; done) | (simp; omega))
          have hd_N1_S : g0 < wj.heap.size := by omega
          have hd_C_S : wc.heap.size < wj.heap.size := by omega
          have hd_D_S : wd.heap.size < wj.heap.size := by omega
          have hl_N1_WJ : g0 < WJ.heap.size := by rw [← hW]; (first | omega | (simp; done) | (simp; omega))
          have k_N1_0_WJ : WJ.cell? ⟨g0, 0, none⟩ = some (.bool (decide ((r).num < 0))) := by rw [← hW]; (first | with_reducible exact k_N1_0 | (simp [go_sem, k_N1_0]; done) | (simp [go_sem, k_N1_0, hl_N1]; done) | (go_simp; done) | (simp [go_sem, k_N1_0, k_N1_1, k_N1_2, k_C_0, k_C_1, k_C_2, k_D_0, k_D_1, k_D_2, f_N1, f_C, f_D, hl_N1, hl_C, hl_D]; done))
          have k_N1_1_WJ : WJ.cell? ⟨g0, 1, none⟩ = some (.slice ro (nlen (r).num.natAbs) co) := by rw [← hW]; (first | with_reducible exact k_N1_1 | (simp [go_sem, k_N1_1]; done) | (simp [go_sem, k_N1_1, hl_N1]; done) | (go_simp; done) | (simp [go_sem, k_N1_0, k_N1_1, k_N1_2, k_C_0, k_C_1, k_C_2, k_D_0, k_D_1, k_D_2, f_N1, f_C, f_D, hl_N1, hl_C, hl_D]; done))
          have k_N1_2_WJ : WJ.cell? ⟨g0, 2, none⟩ = some (.slice ro2 (nlen (r).den) co2) := by rw [← hW]; (first | with_reducible exact k_N1_2 | (simp [go_sem, k_N1_2]; done) | (simp [go_sem, k_N1_2, hl_N1]; done) | (go_simp; done) | (simp [go_sem, k_N1_0, k_N1_1, k_N1_2, k_C_0, k_C_1, k_C_2, k_D_0, k_D_1, k_D_2, f_N1, f_C, f_D, hl_N1, hl_C, hl_D]; done))
          have f_N1_WJ : ∀ o, WJ.frozen? ⟨g0, o, none⟩ = false := by intro o; rw [← hW]; (first | with_reducible exact f_N1 o | (simp [go_sem, f_N1]; done) | (simp [go_sem, f_N1, hl_N1]; done) | (go_simp; done) | (simp [go_sem, k_N1_0, k_N1_1, k_N1_2, k_C_0, k_C_1, k_C_2, k_D_0, k_D_1, k_D_2, f_N1, f_C, f_D, hl_N1, hl_C, hl_D]; done))
          have HX_N1_WJ := Lib.hid (show Bn WJ (g0) by rw [← hW]; (repeat' (first | with_reducible exact Kp.refl _ _ | with_reducible exact HX_N1.out | with_reducible exact HX_C.out | with_reducible exact HX_D.out | with_reducible apply Kp.alloc | with_reducible apply Kp.drew | (with_reducible refine Kp.put ?_ ?_ ?_ _; rotate_left; (focus (first | omega | (simp; done) | (simp; omega))); rotate_left) | (with_reducible refine Bn.new _ _ _ _ ?_ ?_; (focus (first | omega | (simp; done) | (simp; omega))); decide) | with_reducible apply Bn.alloc | with_reducible apply Bn.drew | with_reducible apply Bn.set)))
          have hl_C_WJ : wc.heap.size < WJ.heap.size := by rw [← hW]; (first | omega | (simp; done) | (simp; omega))
          have k_C_0_WJ : WJ.cell? ⟨wc.heap.size, 0, none⟩ = some (.bool (decide ((q).num < 0))) := by rw [← hW]; (first | with_reducible exact k_C_0 | (simp [go_sem, k_C_0]; done) | (simp [go_sem, k_C_0, hl_C]; done) | (go_simp; done) | (simp [go_sem, k_N1_0, k_N1_1, k_N1_2, k_C_0, k_C_1, k_C_2, k_D_0, k_D_1, k_D_2, f_N1, f_C, f_D, hl_N1, hl_C, hl_D]; done))
          have k_C_1_WJ : WJ.cell? ⟨wc.heap.size, 1, none⟩ = some (.slice ra (nlen (q).num.natAbs) ca) := by rw [← hW]; (first | with_reducible exact k_C_1 | (simp [go_sem, k_C_1]; done) | (simp [go_sem, k_C_1, hl_C]; done) | (go_simp; done) | (simp [go_sem, k_N1_0, k_N1_1, k_N1_2, k_C_0, k_C_1, k_C_2, k_D_0, k_D_1, k_D_2, f_N1, f_C, f_D, hl_N1, hl_C, hl_D]; done))
          have k_C_2_WJ : WJ.cell? ⟨wc.heap.size, 2, none⟩ = some (.slice ra2 (nlen (q).den) ca2) := by rw [← hW]; (first | with_reducible exact k_C_2 | (simp [go_sem, k_C_2]; done) | (simp [go_sem, k_C_2, hl_C]; done) | (go_simp; done) | (simp [go_sem, k_N1_0, k_N1_1, k_N1_2, k_C_0, k_C_1, k_C_2, k_D_0, k_D_1, k_D_2, f_N1, f_C, f_D, hl_N1, hl_C, hl_D]; done))
          have f_C_WJ : ∀ o, WJ.frozen? ⟨wc.heap.size, o, none⟩ = false := by intro o; rw [← hW]; (first | with_reducible exact f_C o | (simp [go_sem, f_C]; done) | (simp [go_sem, f_C, hl_C]; done) | (go_simp; done) | (simp [go_sem, k_N1_0, k_N1_1, k_N1_2, k_C_0, k_C_1, k_C_2, k_D_0, k_D_1, k_D_2, f_N1, f_C, f_D, hl_N1, hl_C, hl_D]; done))
          have HX_C_WJ := Lib.hid (show Bn WJ (wc.heap.size) by rw [← hW]; (repeat' (first | with_reducible exact Kp.refl _ _ | with_reducible exact HX_N1.out | with_reducible exact HX_C.out | with_reducible exact HX_D.out | with_reducible apply Kp.alloc | with_reducible apply Kp.drew | (with_reducible refine Kp.put ?_ ?_ ?_ _; rotate_left; (focus (first | omega | (simp; done) | (simp; omega))); rotate_left) | (with_reducible refine Bn.new _ _ _ _ ?_ ?_; (focus (first | omega | (simp; done) | (simp; omega))); decide) | with_reducible apply Bn.alloc | with_reducible apply Bn.drew | with_reducible apply Bn.set)))
          have hl_D_WJ : wd.heap.size < WJ.heap.size := by rw [← hW]; (first | omega | (simp; done) | (simp; omega))
          have k_D_0_WJ : WJ.cell? ⟨wd.heap.size, 0, none⟩ = some (.bool (decide ((q).num < 0))) := by rw [← hW]; (first | with_reducible exact k_D_0 | (simp [go_sem, k_D_0]; done) | (simp [go_sem, k_D_0, hl_D]; done) | (go_simp; done) | (simp [go_sem, k_N1_0, k_N1_1, k_N1_2, k_C_0, k_C_1, k_C_2, k_D_0, k_D_1, k_D_2, f_N1, f_C, f_D, hl_N1, hl_C, hl_D]; done))
          have k_D_1_WJ : WJ.cell? ⟨wd.heap.size, 1, none⟩ = some (.slice rb (nlen (q).num.natAbs) cb) := by rw [← hW]; (first | with_reducible exact k_D_1 | (simp [go_sem, k_D_1]; done) | (simp [go_sem, k_D_1, hl_D]; done) | (go_simp; done) | (simp [go_sem, k_N1_0, k_N1_1, k_N1_2, k_C_0, k_C_1, k_C_2, k_D_0, k_D_1, k_D_2, f_N1, f_C, f_D, hl_N1, hl_C, hl_D]; done))
          have k_D_2_WJ : WJ.cell? ⟨wd.heap.size, 2, none⟩ = some (.slice rb2 (nlen (q).den) cb2) := by rw [← hW]; (first | with_reducible exact k_D_2 | (simp [go_sem, k_D_2]; done) | (simp [go_sem, k_D_2, hl_D]; done) | (go_simp; done) | (simp [go_sem, k_N1_0, k_N1_1, k_N1_2, k_C_0, k_C_1, k_C_2, k_D_0, k_D_1, k_D_2, f_N1, f_C, f_D, hl_N1, hl_C, hl_D]; done))
          have f_D_WJ : ∀ o, WJ.frozen? ⟨wd.heap.size, o, none⟩ = false := by intro o; rw [← hW]; (first | with_reducible exact f_D o | (simp [go_sem, f_D]; done) | (simp [go_sem, f_D, hl_D]; done) | (go_simp; done) | (simp [go_sem, k_N1_0, k_N1_1, k_N1_2, k_C_0, k_C_1, k_C_2, k_D_0, k_D_1, k_D_2, f_N1, f_C, f_D, hl_N1, hl_C, hl_D]; done))
          have HX_D_WJ := Lib.hid (show Bn WJ (wd.heap.size) by rw [← hW]; (repeat' (first | with_reducible exact Kp.refl _ _ | with_reducible exact HX_N1.out | with_reducible exact HX_C.out | with_reducible exact HX_D.out | with_reducible apply Kp.alloc | with_reducible apply Kp.drew | (with_reducible refine Kp.put ?_ ?_ ?_ _; rotate_left; (focus (first | omega | (simp; done) | (simp; omega))); rotate_left) | (with_reducible refine Bn.new _ _ _ _ ?_ ?_; (focus (first | omega | (simp; done) | (simp; omega))); decide) | with_reducible apply Bn.alloc | with_reducible apply Bn.drew | with_reducible apply Bn.set)))
          have hl_S_WJ : wj.heap.size < WJ.heap.size := by rw [← hW]; (first | omega | (simp; done) | (simp; omega))
          have k_S_0_WJ : WJ.cell? ⟨wj.heap.size, 0, none⟩ = some (.bool (decide ((r).num < 0))) := by rw [← hW]; (first | (go_simp; done) | (simp; done) | (simp [go_sem]; done) | (simp [go_sem, k_N1_0, k_N1_1, k_N1_2, k_C_0, k_C_1, k_C_2, k_D_0, k_D_1, k_D_2, f_N1, f_C, f_D, hl_N1, hl_C, hl_D]; done))
          have k_S_1_WJ : WJ.cell? ⟨wj.heap.size, 1, none⟩ = some (.slice rs (nlen (r).num.natAbs) cs) := by rw [← hW]; (first | (go_simp; done) | (simp; done) | (simp [go_sem]; done) | (simp [go_sem, k_N1_0, k_N1_1, k_N1_2, k_C_0, k_C_1, k_C_2, k_D_0, k_D_1, k_D_2, f_N1, f_C, f_D, hl_N1, hl_C, hl_D]; done))
          have k_S_2_WJ : WJ.cell? ⟨wj.heap.size, 2, none⟩ = some (.slice rs2 (nlen (r).den) cs2) := by rw [← hW]; (first | (go_simp; done) | (simp; done) | (simp [go_sem]; done) | (simp [go_sem, k_N1_0, k_N1_1, k_N1_2, k_C_0, k_C_1, k_C_2, k_D_0, k_D_1, k_D_2, f_N1, f_C, f_D, hl_N1, hl_C, hl_D]; done))
          have f_S_WJ : ∀ o, WJ.frozen? ⟨wj.heap.size, o, none⟩ = false := by intro o; rw [← hW]; (first | (go_simp; done) | (simp; done) | (simp [go_sem]; done) | (simp [go_sem, k_N1_0, k_N1_1, k_N1_2, k_C_0, k_C_1, k_C_2, k_D_0, k_D_1, k_D_2, f_N1, f_C, f_D, hl_N1, hl_C, hl_D]; done))
          have HX_S_WJ := Lib.hid (show Bn WJ (wj.heap.size) by rw [← hW]; (repeat' (first | with_reducible exact Kp.refl _ _ | with_reducible exact HX_N1.out | with_reducible exact HX_C.out | with_reducible exact HX_D.out | with_reducible apply Kp.alloc | with_reducible apply Kp.drew | (with_reducible refine Kp.put ?_ ?_ ?_ _; rotate_left; (focus (first | omega | (simp; done) | (simp; omega))); rotate_left) | (with_reducible refine Bn.new _ _ _ _ ?_ ?_; (focus (first | omega | (simp; done) | (simp; omega))); decide) | with_reducible apply Bn.alloc | with_reducible apply Bn.drew | with_reducible apply Bn.set)))
          have HK_WJ := Lib.hid (show Kp N wj WJ by rw [← hW]; (repeat' (first | with_reducible exact Kp.refl _ _ | with_reducible exact HX_N1.out | with_reducible exact HX_C.out | with_reducible exact HX_D.out | with_reducible apply Kp.alloc | with_reducible apply Kp.drew | (with_reducible refine Kp.put ?_ ?_ ?_ _; rotate_left; (focus (first | omega | (simp; done) | (simp; omega))); rotate_left) | (with_reducible refine Bn.new _ _ _ _ ?_ ?_; (focus (first | omega | (simp; done) | (simp; omega))); decide) | with_reducible apply Bn.alloc | with_reducible apply Bn.drew | with_reducible apply Bn.set)))
          have HO1_WJ := Lib.hid (HO1.out.keep HK_WJ.out)
          have HO2_WJ := Lib.hid (HO2.out.keep HK_WJ.out)
          have HA1_WJ := Lib.hid (HA1.out.keep HK_WJ.out)
          have HA2_WJ := Lib.hid (HA2.out.keep HK_WJ.out)
          have HB1_WJ := Lib.hid (HB1.out.keep HK_WJ.out)
          have HB2_WJ := Lib.hid (HB2.out.keep HK_WJ.out)
          have HS1_WJ := Lib.hid (HS1.out.keep HK_WJ.out)
          have HS2_WJ := Lib.hid (HS2.out.keep HK_WJ.out)
          have HB_WJ := Lib.hid (show Below w.heap.size w WJ by rw [← hW]; (repeat' (first | with_reducible exact Below.refl _ _ | with_reducible exact HB.out | (with_reducible refine Below.alloc ?_ ?_ _; rotate_left; (focus (first | omega | (simp; done) | (simp; omega)))) | with_reducible apply Below.drew | (with_reducible refine Below.setCell ?_ ?_ _; rotate_left; (focus (first | omega | (simp; done) | (simp; omega)))))))
          clear hW HK_WJ
          clear hl_N1 f_N1 HX_N1 k_N1_0 k_N1_1 k_N1_2 hl_C f_C HX_C k_C_0 k_C_1 k_C_2 hl_D f_D HX_D k_D_0 k_D_1 k_D_2 HO1 HO2 HA1 HA2 HB1 HB2 HS1 HS2 HB hN hs0
          have hN := hN_WJ
          have HB := HB_WJ
          have hs0 := hs0_WJ
          have hl_N1 := hl_N1_WJ
          have f_N1 := f_N1_WJ
          have HX_N1 := HX_N1_WJ
          have k_N1_0 := k_N1_0_WJ
          have k_N1_1 := k_N1_1_WJ
          have k_N1_2 := k_N1_2_WJ
          have hl_C := hl_C_WJ
          have f_C := f_C_WJ
          have HX_C := HX_C_WJ
          have k_C_0 := k_C_0_WJ
          have k_C_1 := k_C_1_WJ
          have k_C_2 := k_C_2_WJ
          have hl_D := hl_D_WJ
          have f_D := f_D_WJ
          have HX_D := HX_D_WJ
          have k_D_0 := k_D_0_WJ
          have k_D_1 := k_D_1_WJ
          have k_D_2 := k_D_2_WJ
          have hl_S := hl_S_WJ
          have f_S := f_S_WJ
          have HX_S := HX_S_WJ
          have k_S_0 := k_S_0_WJ
          have k_S_1 := k_S_1_WJ
          have k_S_2 := k_S_2_WJ
          have HO1 := HO1_WJ
          have HO2 := HO2_WJ
          have HA1 := HA1_WJ
          have HA2 := HA2_WJ
          have HB1 := HB1_WJ
          have HB2 := HB2_WJ
          have HS1 := HS1_WJ
          have HS2 := HS2_WJ
          clear hN_WJ HB_WJ hs0_WJ hl_N1_WJ f_N1_WJ HX_N1_WJ k_N1_0_WJ k_N1_1_WJ k_N1_2_WJ hl_C_WJ f_C_WJ HX_C_WJ k_C_0_WJ k_C_1_WJ k_C_2_WJ hl_D_WJ f_D_WJ HX_D_WJ k_D_0_WJ k_D_1_WJ k_D_2_WJ hl_S_WJ f_S_WJ HX_S_WJ k_S_0_WJ k_S_1_WJ k_S_2_WJ HO1_WJ HO2_WJ HA1_WJ HA2_WJ HB1_WJ HB2_WJ HS1_WJ HS2_WJ
          refine (same25_any (N := N) _ _ _ _ _ _ r.num.natAbs _ r.den _ _ _ _ _ HS1.out HS2.out HO1.out HO2.out).mono ?_
          rintro e wk ⟨rfl, hb⟩
          have hN_wk : N ≤ wk.heap.size := Nat.le_trans hN hb.size
          have hs_wk : WJ.heap.size ≤ wk.heap.size := hb.size
          have hs0_wk : w.heap.size ≤ wk.heap.size := Nat.le_trans hs0 hb.size
          have hl_N1_wk : g0 < wk.heap.size := Nat.lt_of_lt_of_le hl_N1 hb.size
          have k_N1_0_wk : wk.cell? ⟨g0, 0, none⟩ = some (.bool (decide ((r).num < 0))) := (hb.cell (p := ⟨g0, 0, none⟩) hl_N1).trans k_N1_0
          have k_N1_1_wk : wk.cell? ⟨g0, 1, none⟩ = some (.slice ro (nlen (r).num.natAbs) co) := (hb.cell (p := ⟨g0, 1, none⟩) hl_N1).trans k_N1_1
          have k_N1_2_wk : wk.cell? ⟨g0, 2, none⟩ = some (.slice ro2 (nlen (r).den) co2) := (hb.cell (p := ⟨g0, 2, none⟩) hl_N1).trans k_N1_2
          have f_N1_wk : ∀ o, wk.frozen? ⟨g0, o, none⟩ = false := fun o => (hb.frozen (p := ⟨g0, o, none⟩) hl_N1).trans (f_N1 o)
          have HX_N1_wk := Lib.hid (HX_N1.out.below hb)
          have hl_C_wk : wc.heap.size < wk.heap.size := Nat.lt_of_lt_of_le hl_C hb.size
          have k_C_0_wk : wk.cell? ⟨wc.heap.size, 0, none⟩ = some (.bool (decide ((q).num < 0))) := (hb.cell (p := ⟨wc.heap.size, 0, none⟩) hl_C).trans k_C_0
          have k_C_1_wk : wk.cell? ⟨wc.heap.size, 1, none⟩ = some (.slice ra (nlen (q).num.natAbs) ca) := (hb.cell (p := ⟨wc.heap.size, 1, none⟩) hl_C).trans k_C_1
          have k_C_2_wk : wk.cell? ⟨wc.heap.size, 2, none⟩ = some (.slice ra2 (nlen (q).den) ca2) := (hb.cell (p := ⟨wc.heap.size, 2, none⟩) hl_C).trans k_C_2
          have f_C_wk : ∀ o, wk.frozen? ⟨wc.heap.size, o, none⟩ = false := fun o => (hb.frozen (p := ⟨wc.heap.size, o, none⟩) hl_C).trans (f_C o)
          have HX_C_wk := Lib.hid (HX_C.out.below hb)
          have hl_D_wk : wd.heap.size < wk.heap.size := Nat.lt_of_lt_of_le hl_D hb.size
          have k_D_0_wk : wk.cell? ⟨wd.heap.size, 0, none⟩ = some (.bool (decide ((q).num < 0))) := (hb.cell (p := ⟨wd.heap.size, 0, none⟩) hl_D).trans k_D_0
          have k_D_1_wk : wk.cell? ⟨wd.heap.size, 1, none⟩ = some (.slice rb (nlen (q).num.natAbs) cb) := (hb.cell (p := ⟨wd.heap.size, 1, none⟩) hl_D).trans k_D_1
          have k_D_2_wk : wk.cell? ⟨wd.heap.size, 2, none⟩ = some (.slice rb2 (nlen (q).den) cb2) := (hb.cell (p := ⟨wd.heap.size, 2, none⟩) hl_D).trans k_D_2
          have f_D_wk : ∀ o, wk.frozen? ⟨wd.heap.size, o, none⟩ = false := fun o => (hb.frozen (p := ⟨wd.heap.size, o, none⟩) hl_D).trans (f_D o)
          have HX_D_wk := Lib.hid (HX_D.out.below hb)
          have hl_S_wk : wj.heap.size < wk.heap.size := Nat.lt_of_lt_of_le hl_S hb.size
          have k_S_0_wk : wk.cell? ⟨wj.heap.size, 0, none⟩ = some (.bool (decide ((r).num < 0))) := (hb.cell (p := ⟨wj.heap.size, 0, none⟩) hl_S).trans k_S_0
          have k_S_1_wk : wk.cell? ⟨wj.heap.size, 1, none⟩ = some (.slice rs (nlen (r).num.natAbs) cs) := (hb.cell (p := ⟨wj.heap.size, 1, none⟩) hl_S).trans k_S_1
          have k_S_2_wk : wk.cell? ⟨wj.heap.size, 2, none⟩ = some (.slice rs2 (nlen (r).den) cs2) := (hb.cell (p := ⟨wj.heap.size, 2, none⟩) hl_S).trans k_S_2
          have f_S_wk : ∀ o, wk.frozen? ⟨wj.heap.size, o, none⟩ = false := fun o => (hb.frozen (p := ⟨wj.heap.size, o, none⟩) hl_S).trans (f_S o)
          have HX_S_wk := Lib.hid (HX_S.out.below hb)
          have HO1_wk := Lib.hid (HO1.out.below hb)
          have HO2_wk := Lib.hid (HO2.out.below hb)
          have HA1_wk := Lib.hid (HA1.out.below hb)
          have HA2_wk := Lib.hid (HA2.out.below hb)
          have HB1_wk := Lib.hid (HB1.out.below hb)
          have HB2_wk := Lib.hid (HB2.out.below hb)
          have HS1_wk := Lib.hid (HS1.out.below hb)
          have HS2_wk := Lib.hid (HS2.out.below hb)
          have HB_wk := Lib.hid (HB.out.trans (hb.mono hs0))
          clear hb
          clear hl_N1 f_N1 HX_N1 k_N1_0 k_N1_1 k_N1_2 hl_C f_C HX_C k_C_0 k_C_1 k_C_2 hl_D f_D HX_D k_D_0 k_D_1 k_D_2 hl_S f_S HX_S k_S_0 k_S_1 k_S_2 HO1 HO2 HA1 HA2 HB1 HB2 HS1 HS2 HB hN hs0
          have hN := hN_wk
          have HB := HB_wk
          have hs0 := hs0_wk
          have hl_N1 := hl_N1_wk
          have f_N1 := f_N1_wk
          have HX_N1 := HX_N1_wk
          have k_N1_0 := k_N1_0_wk
          have k_N1_1 := k_N1_1_wk
          have k_N1_2 := k_N1_2_wk
          have hl_C := hl_C_wk
          have f_C := f_C_wk
          have HX_C := HX_C_wk
          have k_C_0 := k_C_0_wk
          have k_C_1 := k_C_1_wk
          have k_C_2 := k_C_2_wk
          have hl_D := hl_D_wk
          have f_D := f_D_wk
          have HX_D := HX_D_wk
          have k_D_0 := k_D_0_wk
          have k_D_1 := k_D_1_wk
          have k_D_2 := k_D_2_wk
          have hl_S := hl_S_wk
          have f_S := f_S_wk
          have HX_S := HX_S_wk
          have k_S_0 := k_S_0_wk
          have k_S_1 := k_S_1_wk
          have k_S_2 := k_S_2_wk
          have HO1 := HO1_wk
          have HO2 := HO2_wk
          have HA1 := HA1_wk
          have HA2 := HA2_wk
          have HB1 := HB1_wk
          have HB2 := HB2_wk
          have HS1 := HS1_wk
          have HS2 := HS2_wk
          clear hN_wk HB_wk hs0_wk hl_N1_wk f_N1_wk HX_N1_wk k_N1_0_wk k_N1_1_wk k_N1_2_wk hl_C_wk f_C_wk HX_C_wk k_C_0_wk k_C_1_wk k_C_2_wk hl_D_wk f_D_wk HX_D_wk k_D_0_wk k_D_1_wk k_D_2_wk hl_S_wk f_S_wk HX_S_wk k_S_0_wk k_S_1_wk k_S_2_wk HO1_wk HO2_wk HA1_wk HA2_wk HB1_wk HB2_wk HS1_wk HS2_wk
          go_wp2_with fail
          go_ret
          exact ⟨rfl, HB.out⟩
        · have hgb : (g != 0) = true := by simpa using hg
          go_wp2_with fail
          go_ret
          refine ⟨rfl, ?_⟩
          (repeat' (first | with_reducible exact Below.refl _ _ | with_reducible exact HB.out | (with_reducible refine Below.alloc ?_ ?_ _; rotate_left; (focus (first | omega | (simp; done) | (simp; omega)))) | with_reducible apply Below.drew | (with_reducible refine Below.setCell ?_ ?_ _; rotate_left; (focus (first | omega | (simp; done) | (simp; omega))))))

end Go.Proofs.YtbjgnpgachdlaaaDoor
