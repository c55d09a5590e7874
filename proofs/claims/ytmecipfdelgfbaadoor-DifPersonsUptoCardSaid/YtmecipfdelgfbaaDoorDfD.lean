/- Contract of dif.Class, for at most 20 strata whose counts are from 0 to 30. -/
import Derived.Test.YtmecipfdelgfbaaDoorDfC
namespace Go.Proofs.YtmecipfdelgfbaaDoor
open Go.RowKit

theorem cmpQ_lt (p q : Rat) : cmpQ p q < 0 ↔ p < q := by
  unfold cmpQ
  by_cases h1 : p < q
  · rw [if_pos h1]; simp [h1]
  · rw [if_neg h1]
    by_cases h2 : q < p
    · rw [if_pos h2]; simp [h1]
    · rw [if_neg h2]; simp [h1]
theorem cmpQ_gt (p q : Rat) : 0 < cmpQ p q ↔ q < p := by
  unfold cmpQ
  by_cases h1 : p < q
  · rw [if_pos h1]
    have : ¬ q < p := by grind
    simp [this]
  · rw [if_neg h1]
    by_cases h2 : q < p
    · rw [if_pos h2]; simp [h2]
    · rw [if_neg h2]; simp [h2]
/-- the class by comparisons -/
def claC (c0 c23 c32 c21 c12 c11 : Int) : Int := if 0 < c0 ∨ (0 ≤ c23 ∧ c32 ≤ 0) then 0 else if c11 < 0 then (if 0 < c21 ∨ c12 < 0 then -2 else -1) else (if 0 < c21 ∨ c12 < 0 then 2 else 1)
theorem claS_C (P al nu de p23 p32 p21 p12 p11 : Rat) (h1 : frq 2 3 = p23) (h2 : frq 3 2 = p32) (h3 : frq 2 1 = p21) (h4 : frq 1 2 = p12) (h5 : frq 1 1 = p11) : claS P al nu de = claC (cmpQ P al) (cmpQ nu (p23 * de)) (cmpQ nu (p32 * de)) (cmpQ nu (p21 * de)) (cmpQ nu (p12 * de)) (cmpQ nu (p11 * de)) := by
  unfold claS claC
  rw [h1, h2, h3, h4, h5]
  have e0 := cmpQ_gt P al
  have e1 : 0 ≤ cmpQ nu (p23 * de) ↔ p23 * de ≤ nu := by rw [← Int.not_lt, cmpQ_lt, Rat.not_lt]
  have e2 : cmpQ nu (p32 * de) ≤ 0 ↔ nu ≤ p32 * de := by rw [← Int.not_lt, cmpQ_gt, Rat.not_lt]
  simp only [e0, e1, e2, cmpQ_lt, cmpQ_gt]
theorem frq_r1 (m d : Nat) (h : m ≤ 900) (h' : d ≤ 120) : rsz (frq m d) ≤ 1 := frq_len m d 1 (by omega) (nlen_small (by show m < 4294967296; omega)) (nlen_small (by show d < 4294967296; omega))

set_option maxHeartbeats 4000000 in
theorem against_any {N : Nat} (x y : Int) (gP gQ : Nat) (pn pd p : Rat) (w : World) (hN : N ≤ w.heap.size) (h1 : NBox N w gP pn) (h2 : NBox N w gQ pd) (z1 : rsz pn ≤ 100) (z2 : rsz pd ≤ 100) (x1 : -9223372036854775808 ≤ x) (x2 : x ≤ 9223372036854775807) (y1 : -9223372036854775808 ≤ y) (y2 : y ≤ 9223372036854775807) (hp : (x : Rat) / (y : Rat) = p) (hz : rsz p ≤ 1) (κ : Int) (hκ : cmpQ pn (p * pd) = κ) :
    Calls Tryd.prog 32 #[.int .i64 x, .int .i64 y, .pointer (some ⟨gP, 0, none⟩), .pointer (some ⟨gQ, 0, none⟩)] w fun e w' => e = .returned (.int .i64 κ) ∧ Below w.heap.size w w' := by
  obtain ⟨rn, cn, rn2, cn2, hbp, hn1, hn2⟩ := h1
  obtain ⟨rd, cd, rd2, cd2, hbq, hm1, hm2⟩ := h2
  obtain ⟨pm, hpm⟩ : ∃ q, p * pd = q := ⟨_, rfl⟩
  rw [hpm] at hκ
  have HPM := Lib.hid hpm
  have HP := Lib.hid hp
  have HZ := Lib.hid hz
  have HK := Lib.hid hκ
  have HZN := Lib.hid z1
  have HZD := Lib.hid z2
  have HZM := Lib.hid (show rsz pm ≤ 101 by rw [← hpm]; have := rsz_mul p pd; omega)
  have HN1 := Lib.hid hn1
  have HN2 := Lib.hid hn2
  have HD1 := Lib.hid hm1
  have HD2 := Lib.hid hm2
  clear hpm hp hz hκ z1 z2 hn1 hn2 hm1 hm2
  obtain ⟨hl_P, bn_P, f_P, k_P_0, k_P_1, k_P_2⟩ := hbp
  have HX_P := Lib.hid bn_P
  clear bn_P
  obtain ⟨hl_Q, bn_Q, f_Q, k_Q_0, k_Q_1, k_Q_2⟩ := hbq
  have HX_Q := Lib.hid bn_Q
  clear bn_Q
  have hN0 := hN
  have HB := Lib.hid (Below.refl w.heap.size w)
  go_enter Tryd.func32, Tryd.ntmps32
  go_wp2_with fail
  refine region_name fun W0 hW => ?_
  have HL_W0 := Lib.hid (show Below w.heap.size w W0 by rw [← hW]; exact BlA)
  have hs_W0 : w.heap.size ≤ W0.heap.size := by rw [← hW]; (first | omega | (simp; done) | (simp; omega))
  have HK_W0 := Lib.hid (show Kp N w W0 by rw [← hW]; exact KpA)
  replace k_P_0 : W0.cell? ⟨gP, 0, none⟩ = some (.bool (decide ((pn).num < 0))) := (HL_W0.out.cell (p := ⟨gP, 0, none⟩) hl_P).trans k_P_0
  replace k_P_1 : W0.cell? ⟨gP, 1, none⟩ = some (.slice rn (nlen (pn).num.natAbs) cn) := (HL_W0.out.cell (p := ⟨gP, 1, none⟩) hl_P).trans k_P_1
  replace k_P_2 : W0.cell? ⟨gP, 2, none⟩ = some (.slice rn2 (nlen (pn).den) cn2) := (HL_W0.out.cell (p := ⟨gP, 2, none⟩) hl_P).trans k_P_2
  replace f_P : ∀ o, W0.frozen? ⟨gP, o, none⟩ = false := fun o => (HL_W0.out.frozen (p := ⟨gP, o, none⟩) hl_P).trans (f_P o)
  replace HX_P := Lib.hid (show Bn W0 (gP) by rw [← hW]; exact KpA)
  replace k_Q_0 : W0.cell? ⟨gQ, 0, none⟩ = some (.bool (decide ((pd).num < 0))) := (HL_W0.out.cell (p := ⟨gQ, 0, none⟩) hl_Q).trans k_Q_0
  replace k_Q_1 : W0.cell? ⟨gQ, 1, none⟩ = some (.slice rd (nlen (pd).num.natAbs) cd) := (HL_W0.out.cell (p := ⟨gQ, 1, none⟩) hl_Q).trans k_Q_1
  replace k_Q_2 : W0.cell? ⟨gQ, 2, none⟩ = some (.slice rd2 (nlen (pd).den) cd2) := (HL_W0.out.cell (p := ⟨gQ, 2, none⟩) hl_Q).trans k_Q_2
  replace f_Q : ∀ o, W0.frozen? ⟨gQ, o, none⟩ = false := fun o => (HL_W0.out.frozen (p := ⟨gQ, o, none⟩) hl_Q).trans (f_Q o)
  replace HX_Q := Lib.hid (show Bn W0 (gQ) by rw [← hW]; exact KpA)
  replace HN1 := Lib.hid (HN1.out.keep HK_W0.out)
  replace HN2 := Lib.hid (HN2.out.keep HK_W0.out)
  replace HD1 := Lib.hid (HD1.out.keep HK_W0.out)
  replace HD2 := Lib.hid (HD2.out.keep HK_W0.out)
  replace HB := Lib.hid (show Below w.heap.size w W0 by rw [← hW]; exact BlA)
  replace hN : N ≤ W0.heap.size := by rw [← hW]; (first | omega | (simp; done) | (simp; omega))
  have hs0 : w.heap.size ≤ W0.heap.size := by rw [← hW]; (first | omega | (simp; done) | (simp; omega))
  replace hl_P : gP < W0.heap.size := by rw [← hW]; (first | omega | (simp; done) | (simp; omega))
  replace hl_Q : gQ < W0.heap.size := by rw [← hW]; (first | omega | (simp; done) | (simp; omega))
  clear HL_W0
  clear hW HK_W0
  go_region_held3 (fun w' => w'.cell? ⟨gP, 0, none⟩ = some (.bool (decide ((pn).num < 0))) ∧ w'.cell? ⟨gP, 1, none⟩ = some (.slice rn (nlen (pn).num.natAbs) cn) ∧ w'.cell? ⟨gP, 2, none⟩ = some (.slice rn2 (nlen (pn).den) cn2) ∧ w'.cell? ⟨gQ, 0, none⟩ = some (.bool (decide ((pd).num < 0))) ∧ w'.cell? ⟨gQ, 1, none⟩ = some (.slice rd (nlen (pd).num.natAbs) cd) ∧ w'.cell? ⟨gQ, 2, none⟩ = some (.slice rd2 (nlen (pd).den) cd2))
    (first | (go_keep; done) | ((try dsimp only); (repeat' apply And.intro) <;> (first | (go_keep; done) | (exact cell_keep_alloc_drew (by first | omega | (simp; omega)) (by first | assumption | go_simp)) | (exact cell_keep_alloc (by first | omega | (simp; omega)) (by first | assumption | go_simp)) | (rw [cell_set2 _ _ _ _ _ _ _ _ (by omega)]; assumption) | (rw [cell_set3 _ _ _ _ _ _ _ _ _ _ (by omega)]; assumption))))
    (first
      | (go_at_call 25; refine (fof_any (N := N) x y _ (by exact hN) x1 x2 y1 y2 p HP.out).mono ?_; rintro e wa ⟨rx, cx, rx2, cx2, rfl, hn, hn', hb⟩; replace hb : Below W0.heap.size W0 wa := (by first | exact hb | exact bel_of_drew hb); have hs_wa : W0.heap.size ≤ wa.heap.size := hb.size; replace k_P_0 : wa.cell? ⟨gP, 0, none⟩ = some (.bool (decide ((pn).num < 0))) := (hb.cell (p := ⟨gP, 0, none⟩) hl_P).trans k_P_0; replace k_P_1 : wa.cell? ⟨gP, 1, none⟩ = some (.slice rn (nlen (pn).num.natAbs) cn) := (hb.cell (p := ⟨gP, 1, none⟩) hl_P).trans k_P_1; replace k_P_2 : wa.cell? ⟨gP, 2, none⟩ = some (.slice rn2 (nlen (pn).den) cn2) := (hb.cell (p := ⟨gP, 2, none⟩) hl_P).trans k_P_2; replace f_P : ∀ o, wa.frozen? ⟨gP, o, none⟩ = false := fun o => (hb.frozen (p := ⟨gP, o, none⟩) hl_P).trans (f_P o); replace HX_P := Lib.hid (HX_P.out.below hb); replace k_Q_0 : wa.cell? ⟨gQ, 0, none⟩ = some (.bool (decide ((pd).num < 0))) := (hb.cell (p := ⟨gQ, 0, none⟩) hl_Q).trans k_Q_0; replace k_Q_1 : wa.cell? ⟨gQ, 1, none⟩ = some (.slice rd (nlen (pd).num.natAbs) cd) := (hb.cell (p := ⟨gQ, 1, none⟩) hl_Q).trans k_Q_1; replace k_Q_2 : wa.cell? ⟨gQ, 2, none⟩ = some (.slice rd2 (nlen (pd).den) cd2) := (hb.cell (p := ⟨gQ, 2, none⟩) hl_Q).trans k_Q_2; replace f_Q : ∀ o, wa.frozen? ⟨gQ, o, none⟩ = false := fun o => (hb.frozen (p := ⟨gQ, o, none⟩) hl_Q).trans (f_Q o); replace HX_Q := Lib.hid (HX_Q.out.below hb); replace HN1 := Lib.hid (HN1.out.below hb); replace HN2 := Lib.hid (HN2.out.below hb); replace HD1 := Lib.hid (HD1.out.below hb); replace HD2 := Lib.hid (HD2.out.below hb); replace HB := Lib.hid (HB.out.trans (hb.mono hs0)); replace hN : N ≤ wa.heap.size := Nat.le_trans hN hb.size; replace hs0 : w.heap.size ≤ wa.heap.size := Nat.le_trans hs0 hb.size; replace hl_P : gP < wa.heap.size := Nat.lt_of_lt_of_le hl_P hb.size; replace hl_Q : gQ < wa.heap.size := Nat.lt_of_lt_of_le hl_Q hb.size; clear hb; have HX1 := Lib.hid hn; clear hn; have HX2 := Lib.hid hn'; clear hn'; skip)
      | (go_at_call 33; refine (rmul_any (N := N) _ _ _ _ _ _ _ _ _ _ _ _ _ _ 1 100 p pd _ (by exact hN) (by exact Rt.of_norm HX1.out HX2.out 1 HZ.out) (by exact Rt.of_norm HD1.out HD2.out 100 HZD.out) (by omega) (by omega) pm HPM.out).mono ?_; rintro e wb ⟨rm, cm, rm2, cm2, rfl, hn, hn', hb⟩; replace hb : Below wa.heap.size wa wb := (by first | exact hb | exact bel_of_drew hb); have hs_wb : wa.heap.size ≤ wb.heap.size := hb.size; replace k_P_0 : wb.cell? ⟨gP, 0, none⟩ = some (.bool (decide ((pn).num < 0))) := (hb.cell (p := ⟨gP, 0, none⟩) hl_P).trans k_P_0; replace k_P_1 : wb.cell? ⟨gP, 1, none⟩ = some (.slice rn (nlen (pn).num.natAbs) cn) := (hb.cell (p := ⟨gP, 1, none⟩) hl_P).trans k_P_1; replace k_P_2 : wb.cell? ⟨gP, 2, none⟩ = some (.slice rn2 (nlen (pn).den) cn2) := (hb.cell (p := ⟨gP, 2, none⟩) hl_P).trans k_P_2; replace f_P : ∀ o, wb.frozen? ⟨gP, o, none⟩ = false := fun o => (hb.frozen (p := ⟨gP, o, none⟩) hl_P).trans (f_P o); replace HX_P := Lib.hid (HX_P.out.below hb); replace k_Q_0 : wb.cell? ⟨gQ, 0, none⟩ = some (.bool (decide ((pd).num < 0))) := (hb.cell (p := ⟨gQ, 0, none⟩) hl_Q).trans k_Q_0; replace k_Q_1 : wb.cell? ⟨gQ, 1, none⟩ = some (.slice rd (nlen (pd).num.natAbs) cd) := (hb.cell (p := ⟨gQ, 1, none⟩) hl_Q).trans k_Q_1; replace k_Q_2 : wb.cell? ⟨gQ, 2, none⟩ = some (.slice rd2 (nlen (pd).den) cd2) := (hb.cell (p := ⟨gQ, 2, none⟩) hl_Q).trans k_Q_2; replace f_Q : ∀ o, wb.frozen? ⟨gQ, o, none⟩ = false := fun o => (hb.frozen (p := ⟨gQ, o, none⟩) hl_Q).trans (f_Q o); replace HX_Q := Lib.hid (HX_Q.out.below hb); replace HN1 := Lib.hid (HN1.out.below hb); replace HN2 := Lib.hid (HN2.out.below hb); replace HD1 := Lib.hid (HD1.out.below hb); replace HD2 := Lib.hid (HD2.out.below hb); replace HX1 := Lib.hid (HX1.out.below hb); replace HX2 := Lib.hid (HX2.out.below hb); replace HB := Lib.hid (HB.out.trans (hb.mono hs0)); replace hN : N ≤ wb.heap.size := Nat.le_trans hN hb.size; replace hs0 : w.heap.size ≤ wb.heap.size := Nat.le_trans hs0 hb.size; replace hl_P : gP < wb.heap.size := Nat.lt_of_lt_of_le hl_P hb.size; replace hl_Q : gQ < wb.heap.size := Nat.lt_of_lt_of_le hl_Q hb.size; clear hb; have HM1 := Lib.hid hn; clear hn; have HM2 := Lib.hid hn'; clear hn'; skip)
      | (go_at_call 14; refine (rcmp_any (N := N) _ _ _ _ _ _ _ _ _ _ _ _ _ _ 100 101 pn pm _ (by exact hN) (by exact Rt.of_norm HN1.out HN2.out 100 HZN.out) (by exact Rt.of_norm HM1.out HM2.out 101 HZM.out) (by omega) (by omega)).mono ?_; rw [HK.out]; rintro e wc ⟨rfl, hb⟩; replace hb : Below wb.heap.size wb wc := (by first | exact hb | exact bel_of_drew hb); have hs_wc : wb.heap.size ≤ wc.heap.size := hb.size; replace k_P_0 : wc.cell? ⟨gP, 0, none⟩ = some (.bool (decide ((pn).num < 0))) := (hb.cell (p := ⟨gP, 0, none⟩) hl_P).trans k_P_0; replace k_P_1 : wc.cell? ⟨gP, 1, none⟩ = some (.slice rn (nlen (pn).num.natAbs) cn) := (hb.cell (p := ⟨gP, 1, none⟩) hl_P).trans k_P_1; replace k_P_2 : wc.cell? ⟨gP, 2, none⟩ = some (.slice rn2 (nlen (pn).den) cn2) := (hb.cell (p := ⟨gP, 2, none⟩) hl_P).trans k_P_2; replace f_P : ∀ o, wc.frozen? ⟨gP, o, none⟩ = false := fun o => (hb.frozen (p := ⟨gP, o, none⟩) hl_P).trans (f_P o); replace HX_P := Lib.hid (HX_P.out.below hb); replace k_Q_0 : wc.cell? ⟨gQ, 0, none⟩ = some (.bool (decide ((pd).num < 0))) := (hb.cell (p := ⟨gQ, 0, none⟩) hl_Q).trans k_Q_0; replace k_Q_1 : wc.cell? ⟨gQ, 1, none⟩ = some (.slice rd (nlen (pd).num.natAbs) cd) := (hb.cell (p := ⟨gQ, 1, none⟩) hl_Q).trans k_Q_1; replace k_Q_2 : wc.cell? ⟨gQ, 2, none⟩ = some (.slice rd2 (nlen (pd).den) cd2) := (hb.cell (p := ⟨gQ, 2, none⟩) hl_Q).trans k_Q_2; replace f_Q : ∀ o, wc.frozen? ⟨gQ, o, none⟩ = false := fun o => (hb.frozen (p := ⟨gQ, o, none⟩) hl_Q).trans (f_Q o); replace HX_Q := Lib.hid (HX_Q.out.below hb); replace HN1 := Lib.hid (HN1.out.below hb); replace HN2 := Lib.hid (HN2.out.below hb); replace HD1 := Lib.hid (HD1.out.below hb); replace HD2 := Lib.hid (HD2.out.below hb); replace HX1 := Lib.hid (HX1.out.below hb); replace HX2 := Lib.hid (HX2.out.below hb); replace HM1 := Lib.hid (HM1.out.below hb); replace HM2 := Lib.hid (HM2.out.below hb); replace HB := Lib.hid (HB.out.trans (hb.mono hs0)); replace hN : N ≤ wc.heap.size := Nat.le_trans hN hb.size; replace hs0 : w.heap.size ≤ wc.heap.size := Nat.le_trans hs0 hb.size; replace hl_P : gP < wc.heap.size := Nat.lt_of_lt_of_le hl_P hb.size; replace hl_Q : gQ < wc.heap.size := Nat.lt_of_lt_of_le hl_Q hb.size; clear hb; skip))
  go_wp2_with fail
  go_ret
  exact ⟨rfl, HB.out⟩

theorem sQ_rszL {f : Nat → Rat} {L : Nat} : ∀ {n : Nat}, (∀ i, i < n → rsz (f i) ≤ L) → rsz (sQ f n) ≤ (L + 1) * n + 1
  | 0, _ => by
    have : rsz (0 : Rat) ≤ 1 := by unfold rsz; exact Nat.max_le.2 ⟨nlen_small (by decide), nlen_small (by decide)⟩
    simp only [sQ]; omega
  | n + 1, h => by
    have h1 := sQ_rszL (n := n) (fun i hi => h i (by omega))
    have h2 := h n (by omega)
    have h3 := rsz_addF (sQ f n) (f n)
    simp only [sQ]; rw [Nat.mul_add]; omega
theorem tstS_rsz {t : Nat → Nat → Nat} {n : Nat} (hc : cntS t n) (hn : n ≤ 20) (hs : supS t n ≤ 121) : rsz (tstS t n) ≤ 9439 := by
  unfold tstS bothQ
  refine Nat.le_trans (sQ_rszL (L := 77) (fun i hi => ?_)) (by omega)
  split
  · exact Nat.le_trans (nulS_len hc hn hs i hi) (by omega)
  · unfold rsz; exact Nat.max_le.2 ⟨Nat.le_trans (nlen_small (by decide)) (by omega), Nat.le_trans (nlen_small (by decide)) (by omega)⟩
/-- a class, or an error -/
def ClaPost (w : World) (b : Bool) (c : Int) (e : Ending) (w' : World) : Prop := e = .returned (if b = true then .tuple #[.int .i64 c, .int .i64 0] else .tuple #[.int .i64 0, .int .i64 3]) ∧ Below w.heap.size w w'

set_option maxRecDepth 20000 in
set_option maxHeartbeats 16000000 in
theorem class_ok {N : Nat} (a : Option Addr) (n cap : Nat) (t : Nat → Nat → Nat) (w : World) (hN : N ≤ w.heap.size) (h : Tz w a n cap t) (hn : n ≤ 20) (hc : cntS t n) (hs : supS t n ≤ 121) (s2 : Bool) (a2 d2 : Option Addr) (na2 ca2 nd2 cd2 L : Nat) (al : Rat) (h2 : Rt N w s2 a2 na2 ca2 d2 nd2 cd2 al L) (hL : L ≤ 2097152) (b : Bool) (hb : prb al = b) (c : Int) (hcl : claS (tstS t n) al (sQ (onmS t) n) (sQ (odnS t) n) = c) :
    Calls Tryd.prog 12 #[.slice a n cap, .agg #[.bool s2, .slice a2 na2 ca2, .slice d2 nd2 cd2]] w (ClaPost w b c) := by
  have HPB := Lib.hid hb
  clear hb
  have HA := Lib.hid h
  have HAL := Lib.hid h2
  have HCN := Lib.hid hc
  have bc := h.1
  have bm := h.2.1
  unfold maxLen at bm
  obtain ⟨P, hP⟩ : ∃ p, tstS t n = p := ⟨_, rfl⟩
  obtain ⟨nu, hnu⟩ : ∃ p, sQ (onmS t) n = p := ⟨_, rfl⟩
  obtain ⟨de, hde⟩ : ∃ p, sQ (odnS t) n = p := ⟨_, rfl⟩
  have HP := Lib.hid hP
  have HNU := Lib.hid hnu
  have HDE := Lib.hid hde
  have HZN := Lib.hid (show rsz nu ≤ 100 by rw [← hnu]; have := sQ_rsz (f := onmS t) (n := n) (fun i hi => onm_rsz hc hi); omega)
  have HZD := Lib.hid (show rsz de ≤ 100 by rw [← hde]; have := sQ_rsz (f := odnS t) (n := n) (fun i hi => odn_rsz hc hi); omega)
  rw [hP, hnu, hde] at hcl
  obtain ⟨p23, hp23⟩ : ∃ p, frq 2 3 = p := ⟨_, rfl⟩
  have HP23 := Lib.hid (show ((2 : Int) : Rat) / ((3 : Int) : Rat) = p23 by rw [← hp23]; exact (frq_int 2 3).symm)
  have HZ23 := Lib.hid (show rsz p23 ≤ 1 by rw [← hp23]; exact frq_r1 _ _ (by omega) (by omega))
  obtain ⟨p32, hp32⟩ : ∃ p, frq 3 2 = p := ⟨_, rfl⟩
  have HP32 := Lib.hid (show ((3 : Int) : Rat) / ((2 : Int) : Rat) = p32 by rw [← hp32]; exact (frq_int 3 2).symm)
  have HZ32 := Lib.hid (show rsz p32 ≤ 1 by rw [← hp32]; exact frq_r1 _ _ (by omega) (by omega))
  obtain ⟨p21, hp21⟩ : ∃ p, frq 2 1 = p := ⟨_, rfl⟩
  have HP21 := Lib.hid (show ((2 : Int) : Rat) / ((1 : Int) : Rat) = p21 by rw [← hp21]; exact (frq_int 2 1).symm)
  have HZ21 := Lib.hid (show rsz p21 ≤ 1 by rw [← hp21]; exact frq_r1 _ _ (by omega) (by omega))
  obtain ⟨p12, hp12⟩ : ∃ p, frq 1 2 = p := ⟨_, rfl⟩
  have HP12 := Lib.hid (show ((1 : Int) : Rat) / ((2 : Int) : Rat) = p12 by rw [← hp12]; exact (frq_int 1 2).symm)
  have HZ12 := Lib.hid (show rsz p12 ≤ 1 by rw [← hp12]; exact frq_r1 _ _ (by omega) (by omega))
  obtain ⟨p11, hp11⟩ : ∃ p, frq 1 1 = p := ⟨_, rfl⟩
  have HP11 := Lib.hid (show ((1 : Int) : Rat) / ((1 : Int) : Rat) = p11 by rw [← hp11]; exact (frq_int 1 1).symm)
  have HZ11 := Lib.hid (show rsz p11 ≤ 1 by rw [← hp11]; exact frq_r1 _ _ (by omega) (by omega))
  rw [claS_C P al nu de p23 p32 p21 p12 p11 hp23 hp32 hp21 hp12 hp11] at hcl
  obtain ⟨κ0, hk0⟩ : ∃ x, cmpQ P al = x := ⟨_, rfl⟩
  rw [hk0] at hcl
  have HK0 := Lib.hid hk0
  obtain ⟨κ23, hk23⟩ : ∃ x, cmpQ nu (p23 * de) = x := ⟨_, rfl⟩
  rw [hk23] at hcl
  have HK23 := Lib.hid hk23
  obtain ⟨κ32, hk32⟩ : ∃ x, cmpQ nu (p32 * de) = x := ⟨_, rfl⟩
  rw [hk32] at hcl
  have HK32 := Lib.hid hk32
  obtain ⟨κ21, hk21⟩ : ∃ x, cmpQ nu (p21 * de) = x := ⟨_, rfl⟩
  rw [hk21] at hcl
  have HK21 := Lib.hid hk21
  obtain ⟨κ12, hk12⟩ : ∃ x, cmpQ nu (p12 * de) = x := ⟨_, rfl⟩
  rw [hk12] at hcl
  have HK12 := Lib.hid hk12
  obtain ⟨κ11, hk11⟩ : ∃ x, cmpQ nu (p11 * de) = x := ⟨_, rfl⟩
  rw [hk11] at hcl
  have HK11 := Lib.hid hk11
  have HCL := Lib.hid hcl
  have HTL := Lib.hid (show rsz P ≤ 9439 by rw [← hP]; exact tstS_rsz hc hn hs)
  clear h h2 hc hP hnu hde hcl hk0 hp23 hk23 hp32 hk32 hp21 hk21 hp12 hk12 hp11 hk11
  have hN0 := hN
  have HB := Lib.hid (Below.refl w.heap.size w)
  go_enter Tryd.func12, Tryd.ntmps12
  go_wp2_with fail
  refine calls_name fun W0 hW => ?_
  have hs_W0 : w.heap.size ≤ W0.heap.size := by rw [← hW]; (first | omega | (simp; done) | (simp; omega))
  have HL_W0 := Lib.hid (show Below w.heap.size w W0 by rw [← hW]; exact BlA)
  have k_A_0 : W0.cell? ⟨w.heap.size, 0, none⟩ = some (.bool s2) := by rw [← hW]; (first | (go_simp; done) | (simp; done) | (simp [go_sem]; done) | (simp [go_sem]; done))
  have k_A_1 : W0.cell? ⟨w.heap.size, 1, none⟩ = some (.slice a2 na2 ca2) := by rw [← hW]; (first | (go_simp; done) | (simp; done) | (simp [go_sem]; done) | (simp [go_sem]; done))
  have k_A_2 : W0.cell? ⟨w.heap.size, 2, none⟩ = some (.slice d2 nd2 cd2) := by rw [← hW]; (first | (go_simp; done) | (simp; done) | (simp [go_sem]; done) | (simp [go_sem]; done))
  have f_A : ∀ o, W0.frozen? ⟨w.heap.size, o, none⟩ = false := by intro o; rw [← hW]; (first | (go_simp; done) | (simp; done) | (simp [go_sem]; done) | (simp [go_sem]; done))
  have HX_A := Lib.hid (show Bn W0 (w.heap.size) by rw [← hW]; exact KpA)
  replace HB := Lib.hid (show Below w.heap.size w W0 by rw [← hW]; exact BlA)
  replace hN : N ≤ W0.heap.size := by rw [← hW]; (first | omega | (simp; done) | (simp; omega))
  have hs0 : w.heap.size ≤ W0.heap.size := by rw [← hW]; (first | omega | (simp; done) | (simp; omega))
  have hl_A : w.heap.size < W0.heap.size := by rw [← hW]; (first | omega | (simp; done) | (simp; omega))
  replace HA := Lib.hid (HA.out.below HL_W0.out)
  replace HAL := Lib.hid (HAL.out.below HL_W0.out)
  clear HL_W0
  clear hW
  refine (test_ok (N := N) _ n _ t _ hN HA.out hn HCN.out hs P HP.out).mono ?_
  rintro e wa ⟨rp, cp, rp2, cp2, rfl, hn, hn', hb⟩
  have hs_wa : W0.heap.size ≤ wa.heap.size := hb.size
  replace k_A_0 : wa.cell? ⟨w.heap.size, 0, none⟩ = some (.bool s2) := (hb.cell (p := ⟨w.heap.size, 0, none⟩) hl_A).trans k_A_0
  replace k_A_1 : wa.cell? ⟨w.heap.size, 1, none⟩ = some (.slice a2 na2 ca2) := (hb.cell (p := ⟨w.heap.size, 1, none⟩) hl_A).trans k_A_1
  replace k_A_2 : wa.cell? ⟨w.heap.size, 2, none⟩ = some (.slice d2 nd2 cd2) := (hb.cell (p := ⟨w.heap.size, 2, none⟩) hl_A).trans k_A_2
  replace f_A : ∀ o, wa.frozen? ⟨w.heap.size, o, none⟩ = false := fun o => (hb.frozen (p := ⟨w.heap.size, o, none⟩) hl_A).trans (f_A o)
  replace HX_A := Lib.hid (HX_A.out.below hb)
  replace HB := Lib.hid (HB.out.trans (hb.mono hs0))
  replace hN : N ≤ wa.heap.size := Nat.le_trans hN hb.size
  replace hs0 : w.heap.size ≤ wa.heap.size := Nat.le_trans hs0 hb.size
  replace hl_A : w.heap.size < wa.heap.size := Nat.lt_of_lt_of_le hl_A hb.size
  replace HA := Lib.hid (HA.out.below hb)
  replace HAL := Lib.hid (HAL.out.below hb)
  clear hb
  have HP1 := Lib.hid hn
  clear hn
  have HP2 := Lib.hid hn'
  clear hn'
  go_wp2_with fail
  refine calls_name fun W1 hW => ?_
  have HL_W1 := Lib.hid (show Below wa.heap.size wa W1 by rw [← hW]; exact BlA)
  have hs_W1 : wa.heap.size ≤ W1.heap.size := by rw [← hW]; (first | omega | (simp; done) | (simp; omega))
  have hd_A_P : w.heap.size < wa.heap.size := by omega
  have HK_W1 := Lib.hid (show Kp N wa W1 by rw [← hW]; exact KpA)
  replace k_A_0 : W1.cell? ⟨w.heap.size, 0, none⟩ = some (.bool s2) := (HL_W1.out.cell (p := ⟨w.heap.size, 0, none⟩) hl_A).trans k_A_0
  replace k_A_1 : W1.cell? ⟨w.heap.size, 1, none⟩ = some (.slice a2 na2 ca2) := (HL_W1.out.cell (p := ⟨w.heap.size, 1, none⟩) hl_A).trans k_A_1
  replace k_A_2 : W1.cell? ⟨w.heap.size, 2, none⟩ = some (.slice d2 nd2 cd2) := (HL_W1.out.cell (p := ⟨w.heap.size, 2, none⟩) hl_A).trans k_A_2
  replace f_A : ∀ o, W1.frozen? ⟨w.heap.size, o, none⟩ = false := fun o => (HL_W1.out.frozen (p := ⟨w.heap.size, o, none⟩) hl_A).trans (f_A o)
  replace HX_A := Lib.hid (show Bn W1 (w.heap.size) by rw [← hW]; exact KpA)
  have k_P_0 : W1.cell? ⟨wa.heap.size, 0, none⟩ = some (.bool (decide ((P).num < 0))) := by rw [← hW]; (first | (go_simp; done) | (simp; done) | (simp [go_sem]; done) | (simp [go_sem, k_A_0, k_A_1, k_A_2, f_A, hl_A]; done))
  have k_P_1 : W1.cell? ⟨wa.heap.size, 1, none⟩ = some (.slice rp (nlen (P).num.natAbs) cp) := by rw [← hW]; (first | (go_simp; done) | (simp; done) | (simp [go_sem]; done) | (simp [go_sem, k_A_0, k_A_1, k_A_2, f_A, hl_A]; done))
  have k_P_2 : W1.cell? ⟨wa.heap.size, 2, none⟩ = some (.slice rp2 (nlen (P).den) cp2) := by rw [← hW]; (first | (go_simp; done) | (simp; done) | (simp [go_sem]; done) | (simp [go_sem, k_A_0, k_A_1, k_A_2, f_A, hl_A]; done))
  have f_P : ∀ o, W1.frozen? ⟨wa.heap.size, o, none⟩ = false := by intro o; rw [← hW]; (first | (go_simp; done) | (simp; done) | (simp [go_sem]; done) | (simp [go_sem, k_A_0, k_A_1, k_A_2, f_A, hl_A]; done))
  have HX_P := Lib.hid (show Bn W1 (wa.heap.size) by rw [← hW]; exact KpA)
  replace HP1 := Lib.hid (HP1.out.keep HK_W1.out)
  replace HP2 := Lib.hid (HP2.out.keep HK_W1.out)
  replace HB := Lib.hid (show Below w.heap.size w W1 by rw [← hW]; exact BlA)
  replace hN : N ≤ W1.heap.size := by rw [← hW]; (first | omega | (simp; done) | (simp; omega))
  replace hs0 : w.heap.size ≤ W1.heap.size := by rw [← hW]; (first | omega | (simp; done) | (simp; omega))
  replace hl_A : w.heap.size < W1.heap.size := by rw [← hW]; (first | omega | (simp; done) | (simp; omega))
  have hl_P : wa.heap.size < W1.heap.size := by rw [← hW]; (first | omega | (simp; done) | (simp; omega))
  replace HA := Lib.hid (HA.out.below HL_W1.out)
  replace HAL := Lib.hid (HAL.out.below HL_W1.out)
  clear HL_W1
  clear hW HK_W1
  cases b
  · refine (fshare_any (N := N) _ _ _ _ _ _ _ L al _ hN HAL.out (by omega) false HPB.out).mono ?_
    rintro e wb ⟨rfl, hb⟩
    have hs_wb : W1.heap.size ≤ wb.heap.size := hb.size
    replace k_A_0 : wb.cell? ⟨w.heap.size, 0, none⟩ = some (.bool s2) := (hb.cell (p := ⟨w.heap.size, 0, none⟩) hl_A).trans k_A_0
    replace k_A_1 : wb.cell? ⟨w.heap.size, 1, none⟩ = some (.slice a2 na2 ca2) := (hb.cell (p := ⟨w.heap.size, 1, none⟩) hl_A).trans k_A_1
    replace k_A_2 : wb.cell? ⟨w.heap.size, 2, none⟩ = some (.slice d2 nd2 cd2) := (hb.cell (p := ⟨w.heap.size, 2, none⟩) hl_A).trans k_A_2
    replace f_A : ∀ o, wb.frozen? ⟨w.heap.size, o, none⟩ = false := fun o => (hb.frozen (p := ⟨w.heap.size, o, none⟩) hl_A).trans (f_A o)
    replace HX_A := Lib.hid (HX_A.out.below hb)
    replace k_P_0 : wb.cell? ⟨wa.heap.size, 0, none⟩ = some (.bool (decide ((P).num < 0))) := (hb.cell (p := ⟨wa.heap.size, 0, none⟩) hl_P).trans k_P_0
    replace k_P_1 : wb.cell? ⟨wa.heap.size, 1, none⟩ = some (.slice rp (nlen (P).num.natAbs) cp) := (hb.cell (p := ⟨wa.heap.size, 1, none⟩) hl_P).trans k_P_1
    replace k_P_2 : wb.cell? ⟨wa.heap.size, 2, none⟩ = some (.slice rp2 (nlen (P).den) cp2) := (hb.cell (p := ⟨wa.heap.size, 2, none⟩) hl_P).trans k_P_2
    replace f_P : ∀ o, wb.frozen? ⟨wa.heap.size, o, none⟩ = false := fun o => (hb.frozen (p := ⟨wa.heap.size, o, none⟩) hl_P).trans (f_P o)
    replace HX_P := Lib.hid (HX_P.out.below hb)
    replace HP1 := Lib.hid (HP1.out.below hb)
    replace HP2 := Lib.hid (HP2.out.below hb)
    replace HB := Lib.hid (HB.out.trans (hb.mono hs0))
    replace hN : N ≤ wb.heap.size := Nat.le_trans hN hb.size
    replace hs0 : w.heap.size ≤ wb.heap.size := Nat.le_trans hs0 hb.size
    replace hl_A : w.heap.size < wb.heap.size := Nat.lt_of_lt_of_le hl_A hb.size
    replace hl_P : wa.heap.size < wb.heap.size := Nat.lt_of_lt_of_le hl_P hb.size
    replace HA := Lib.hid (HA.out.below hb)
    replace HAL := Lib.hid (HAL.out.below hb)
    clear hb
    go_wp2_with fail
    refine bodyPost_ret (v := .tuple #[.int .i64 0, .int .i64 3]) (by simp [results, Tryd.results12, go_sem]) rfl ⟨rfl, HB.out⟩
  · refine (fshare_any (N := N) _ _ _ _ _ _ _ L al _ hN HAL.out (by omega) true HPB.out).mono ?_
    rintro e wb ⟨rfl, hb⟩
    have hs_wb : W1.heap.size ≤ wb.heap.size := hb.size
    replace k_A_0 : wb.cell? ⟨w.heap.size, 0, none⟩ = some (.bool s2) := (hb.cell (p := ⟨w.heap.size, 0, none⟩) hl_A).trans k_A_0
    replace k_A_1 : wb.cell? ⟨w.heap.size, 1, none⟩ = some (.slice a2 na2 ca2) := (hb.cell (p := ⟨w.heap.size, 1, none⟩) hl_A).trans k_A_1
    replace k_A_2 : wb.cell? ⟨w.heap.size, 2, none⟩ = some (.slice d2 nd2 cd2) := (hb.cell (p := ⟨w.heap.size, 2, none⟩) hl_A).trans k_A_2
    replace f_A : ∀ o, wb.frozen? ⟨w.heap.size, o, none⟩ = false := fun o => (hb.frozen (p := ⟨w.heap.size, o, none⟩) hl_A).trans (f_A o)
    replace HX_A := Lib.hid (HX_A.out.below hb)
    replace k_P_0 : wb.cell? ⟨wa.heap.size, 0, none⟩ = some (.bool (decide ((P).num < 0))) := (hb.cell (p := ⟨wa.heap.size, 0, none⟩) hl_P).trans k_P_0
    replace k_P_1 : wb.cell? ⟨wa.heap.size, 1, none⟩ = some (.slice rp (nlen (P).num.natAbs) cp) := (hb.cell (p := ⟨wa.heap.size, 1, none⟩) hl_P).trans k_P_1
    replace k_P_2 : wb.cell? ⟨wa.heap.size, 2, none⟩ = some (.slice rp2 (nlen (P).den) cp2) := (hb.cell (p := ⟨wa.heap.size, 2, none⟩) hl_P).trans k_P_2
    replace f_P : ∀ o, wb.frozen? ⟨wa.heap.size, o, none⟩ = false := fun o => (hb.frozen (p := ⟨wa.heap.size, o, none⟩) hl_P).trans (f_P o)
    replace HX_P := Lib.hid (HX_P.out.below hb)
    replace HP1 := Lib.hid (HP1.out.below hb)
    replace HP2 := Lib.hid (HP2.out.below hb)
    replace HB := Lib.hid (HB.out.trans (hb.mono hs0))
    replace hN : N ≤ wb.heap.size := Nat.le_trans hN hb.size
    replace hs0 : w.heap.size ≤ wb.heap.size := Nat.le_trans hs0 hb.size
    replace hl_A : w.heap.size < wb.heap.size := Nat.lt_of_lt_of_le hl_A hb.size
    replace hl_P : wa.heap.size < wb.heap.size := Nat.lt_of_lt_of_le hl_P hb.size
    replace HA := Lib.hid (HA.out.below hb)
    replace HAL := Lib.hid (HAL.out.below hb)
    clear hb
    go_wp2_with fail
    refine calls_name fun W2 hW => ?_
    have HL_W2 := Lib.hid (show Below wb.heap.size wb W2 by rw [← hW]; exact BlA)
    have hs_W2 : wb.heap.size ≤ W2.heap.size := by rw [← hW]; (first | omega | (simp; done) | (simp; omega))
    have HK_W2 := Lib.hid (show Kp N wb W2 by rw [← hW]; exact KpA)
    replace k_A_0 : W2.cell? ⟨w.heap.size, 0, none⟩ = some (.bool s2) := (HL_W2.out.cell (p := ⟨w.heap.size, 0, none⟩) hl_A).trans k_A_0
    replace k_A_1 : W2.cell? ⟨w.heap.size, 1, none⟩ = some (.slice a2 na2 ca2) := (HL_W2.out.cell (p := ⟨w.heap.size, 1, none⟩) hl_A).trans k_A_1
    replace k_A_2 : W2.cell? ⟨w.heap.size, 2, none⟩ = some (.slice d2 nd2 cd2) := (HL_W2.out.cell (p := ⟨w.heap.size, 2, none⟩) hl_A).trans k_A_2
    replace f_A : ∀ o, W2.frozen? ⟨w.heap.size, o, none⟩ = false := fun o => (HL_W2.out.frozen (p := ⟨w.heap.size, o, none⟩) hl_A).trans (f_A o)
    replace HX_A := Lib.hid (show Bn W2 (w.heap.size) by rw [← hW]; exact KpA)
    replace k_P_0 : W2.cell? ⟨wa.heap.size, 0, none⟩ = some (.bool (decide ((P).num < 0))) := (HL_W2.out.cell (p := ⟨wa.heap.size, 0, none⟩) hl_P).trans k_P_0
    replace k_P_1 : W2.cell? ⟨wa.heap.size, 1, none⟩ = some (.slice rp (nlen (P).num.natAbs) cp) := (HL_W2.out.cell (p := ⟨wa.heap.size, 1, none⟩) hl_P).trans k_P_1
    replace k_P_2 : W2.cell? ⟨wa.heap.size, 2, none⟩ = some (.slice rp2 (nlen (P).den) cp2) := (HL_W2.out.cell (p := ⟨wa.heap.size, 2, none⟩) hl_P).trans k_P_2
    replace f_P : ∀ o, W2.frozen? ⟨wa.heap.size, o, none⟩ = false := fun o => (HL_W2.out.frozen (p := ⟨wa.heap.size, o, none⟩) hl_P).trans (f_P o)
    replace HX_P := Lib.hid (show Bn W2 (wa.heap.size) by rw [← hW]; exact KpA)
    replace HP1 := Lib.hid (HP1.out.keep HK_W2.out)
    replace HP2 := Lib.hid (HP2.out.keep HK_W2.out)
    replace HB := Lib.hid (show Below w.heap.size w W2 by rw [← hW]; exact BlA)
    replace hN : N ≤ W2.heap.size := by rw [← hW]; (first | omega | (simp; done) | (simp; omega))
    replace hs0 : w.heap.size ≤ W2.heap.size := by rw [← hW]; (first | omega | (simp; done) | (simp; omega))
    replace hl_A : w.heap.size < W2.heap.size := by rw [← hW]; (first | omega | (simp; done) | (simp; omega))
    replace hl_P : wa.heap.size < W2.heap.size := by rw [← hW]; (first | omega | (simp; done) | (simp; omega))
    replace HA := Lib.hid (HA.out.below HL_W2.out)
    replace HAL := Lib.hid (HAL.out.below HL_W2.out)
    clear HL_W2
    clear hW HK_W2
    refine (odds_ok (N := N) _ n _ t _ hN HA.out hn HCN.out nu de HNU.out HDE.out).mono ?_
    rintro e wc ⟨ru, cu, ru2, cu2, rv, cv, rv2, cv2, rfl, hn1, hn2, hm1, hm2, hb⟩
    have hs_wc : W2.heap.size ≤ wc.heap.size := hb.size
    replace k_A_0 : wc.cell? ⟨w.heap.size, 0, none⟩ = some (.bool s2) := (hb.cell (p := ⟨w.heap.size, 0, none⟩) hl_A).trans k_A_0
    replace k_A_1 : wc.cell? ⟨w.heap.size, 1, none⟩ = some (.slice a2 na2 ca2) := (hb.cell (p := ⟨w.heap.size, 1, none⟩) hl_A).trans k_A_1
    replace k_A_2 : wc.cell? ⟨w.heap.size, 2, none⟩ = some (.slice d2 nd2 cd2) := (hb.cell (p := ⟨w.heap.size, 2, none⟩) hl_A).trans k_A_2
    replace f_A : ∀ o, wc.frozen? ⟨w.heap.size, o, none⟩ = false := fun o => (hb.frozen (p := ⟨w.heap.size, o, none⟩) hl_A).trans (f_A o)
    replace HX_A := Lib.hid (HX_A.out.below hb)
    replace k_P_0 : wc.cell? ⟨wa.heap.size, 0, none⟩ = some (.bool (decide ((P).num < 0))) := (hb.cell (p := ⟨wa.heap.size, 0, none⟩) hl_P).trans k_P_0
    replace k_P_1 : wc.cell? ⟨wa.heap.size, 1, none⟩ = some (.slice rp (nlen (P).num.natAbs) cp) := (hb.cell (p := ⟨wa.heap.size, 1, none⟩) hl_P).trans k_P_1
    replace k_P_2 : wc.cell? ⟨wa.heap.size, 2, none⟩ = some (.slice rp2 (nlen (P).den) cp2) := (hb.cell (p := ⟨wa.heap.size, 2, none⟩) hl_P).trans k_P_2
    replace f_P : ∀ o, wc.frozen? ⟨wa.heap.size, o, none⟩ = false := fun o => (hb.frozen (p := ⟨wa.heap.size, o, none⟩) hl_P).trans (f_P o)
    replace HX_P := Lib.hid (HX_P.out.below hb)
    replace HP1 := Lib.hid (HP1.out.below hb)
    replace HP2 := Lib.hid (HP2.out.below hb)
    replace HB := Lib.hid (HB.out.trans (hb.mono hs0))
    replace hN : N ≤ wc.heap.size := Nat.le_trans hN hb.size
    replace hs0 : w.heap.size ≤ wc.heap.size := Nat.le_trans hs0 hb.size
    replace hl_A : w.heap.size < wc.heap.size := Nat.lt_of_lt_of_le hl_A hb.size
    replace hl_P : wa.heap.size < wc.heap.size := Nat.lt_of_lt_of_le hl_P hb.size
    replace HA := Lib.hid (HA.out.below hb)
    replace HAL := Lib.hid (HAL.out.below hb)
    clear hb
    have HN1 := Lib.hid hn1
    clear hn1
    have HN2 := Lib.hid hn2
    clear hn2
    have HD1 := Lib.hid hm1
    clear hm1
    have HD2 := Lib.hid hm2
    clear hm2
    go_wp2_with fail
    refine calls_name fun W3 hW => ?_
    have HL_W3 := Lib.hid (show Below wc.heap.size wc W3 by rw [← hW]; exact BlA)
    have hs_W3 : wc.heap.size ≤ W3.heap.size := by rw [← hW]; (first | omega | (simp; done) | (simp; omega))
    have hd_A_N : w.heap.size < wc.heap.size := by omega
    have hd_P_N : wa.heap.size < wc.heap.size := by omega
    have hd_A_D : w.heap.size < wc.heap.size + 1 := by omega
    have hd_P_D : wa.heap.size < wc.heap.size + 1 := by omega
    have HK_W3 := Lib.hid (show Kp N wc W3 by rw [← hW]; exact KpA)
    replace k_A_0 : W3.cell? ⟨w.heap.size, 0, none⟩ = some (.bool s2) := (HL_W3.out.cell (p := ⟨w.heap.size, 0, none⟩) hl_A).trans k_A_0
    replace k_A_1 : W3.cell? ⟨w.heap.size, 1, none⟩ = some (.slice a2 na2 ca2) := (HL_W3.out.cell (p := ⟨w.heap.size, 1, none⟩) hl_A).trans k_A_1
    replace k_A_2 : W3.cell? ⟨w.heap.size, 2, none⟩ = some (.slice d2 nd2 cd2) := (HL_W3.out.cell (p := ⟨w.heap.size, 2, none⟩) hl_A).trans k_A_2
    replace f_A : ∀ o, W3.frozen? ⟨w.heap.size, o, none⟩ = false := fun o => (HL_W3.out.frozen (p := ⟨w.heap.size, o, none⟩) hl_A).trans (f_A o)
    replace HX_A := Lib.hid (show Bn W3 (w.heap.size) by rw [← hW]; exact KpA)
    replace k_P_0 : W3.cell? ⟨wa.heap.size, 0, none⟩ = some (.bool (decide ((P).num < 0))) := (HL_W3.out.cell (p := ⟨wa.heap.size, 0, none⟩) hl_P).trans k_P_0
    replace k_P_1 : W3.cell? ⟨wa.heap.size, 1, none⟩ = some (.slice rp (nlen (P).num.natAbs) cp) := (HL_W3.out.cell (p := ⟨wa.heap.size, 1, none⟩) hl_P).trans k_P_1
    replace k_P_2 : W3.cell? ⟨wa.heap.size, 2, none⟩ = some (.slice rp2 (nlen (P).den) cp2) := (HL_W3.out.cell (p := ⟨wa.heap.size, 2, none⟩) hl_P).trans k_P_2
    replace f_P : ∀ o, W3.frozen? ⟨wa.heap.size, o, none⟩ = false := fun o => (HL_W3.out.frozen (p := ⟨wa.heap.size, o, none⟩) hl_P).trans (f_P o)
    replace HX_P := Lib.hid (show Bn W3 (wa.heap.size) by rw [← hW]; exact KpA)
    have k_N_0 : W3.cell? ⟨wc.heap.size, 0, none⟩ = some (.bool (decide ((nu).num < 0))) := by rw [← hW]; (first | (go_simp; done) | (simp; done) | (simp [go_sem]; done) | (simp [go_sem, k_A_0, k_A_1, k_A_2, k_P_0, k_P_1, k_P_2, f_A, f_P, hl_A, hl_P]; done))
    have k_N_1 : W3.cell? ⟨wc.heap.size, 1, none⟩ = some (.slice ru (nlen (nu).num.natAbs) cu) := by rw [← hW]; (first | (go_simp; done) | (simp; done) | (simp [go_sem]; done) | (simp [go_sem, k_A_0, k_A_1, k_A_2, k_P_0, k_P_1, k_P_2, f_A, f_P, hl_A, hl_P]; done))
    have k_N_2 : W3.cell? ⟨wc.heap.size, 2, none⟩ = some (.slice ru2 (nlen (nu).den) cu2) := by rw [← hW]; (first | (go_simp; done) | (simp; done) | (simp [go_sem]; done) | (simp [go_sem, k_A_0, k_A_1, k_A_2, k_P_0, k_P_1, k_P_2, f_A, f_P, hl_A, hl_P]; done))
    have f_N : ∀ o, W3.frozen? ⟨wc.heap.size, o, none⟩ = false := by intro o; rw [← hW]; (first | (go_simp; done) | (simp; done) | (simp [go_sem]; done) | (simp [go_sem, k_A_0, k_A_1, k_A_2, k_P_0, k_P_1, k_P_2, f_A, f_P, hl_A, hl_P]; done))
    have HX_N := Lib.hid (show Bn W3 (wc.heap.size) by rw [← hW]; exact KpA)
    have k_D_0 : W3.cell? ⟨wc.heap.size + 1, 0, none⟩ = some (.bool (decide ((de).num < 0))) := by rw [← hW]; (first | (go_simp; done) | (simp; done) | (simp [go_sem]; done) | (simp [go_sem, k_A_0, k_A_1, k_A_2, k_P_0, k_P_1, k_P_2, f_A, f_P, hl_A, hl_P]; done))
    have k_D_1 : W3.cell? ⟨wc.heap.size + 1, 1, none⟩ = some (.slice rv (nlen (de).num.natAbs) cv) := by rw [← hW]; (first | (go_simp; done) | (simp; done) | (simp [go_sem]; done) | (simp [go_sem, k_A_0, k_A_1, k_A_2, k_P_0, k_P_1, k_P_2, f_A, f_P, hl_A, hl_P]; done))
    have k_D_2 : W3.cell? ⟨wc.heap.size + 1, 2, none⟩ = some (.slice rv2 (nlen (de).den) cv2) := by rw [← hW]; (first | (go_simp; done) | (simp; done) | (simp [go_sem]; done) | (simp [go_sem, k_A_0, k_A_1, k_A_2, k_P_0, k_P_1, k_P_2, f_A, f_P, hl_A, hl_P]; done))
    have f_D : ∀ o, W3.frozen? ⟨wc.heap.size + 1, o, none⟩ = false := by intro o; rw [← hW]; (first | (go_simp; done) | (simp; done) | (simp [go_sem]; done) | (simp [go_sem, k_A_0, k_A_1, k_A_2, k_P_0, k_P_1, k_P_2, f_A, f_P, hl_A, hl_P]; done))
    have HX_D := Lib.hid (show Bn W3 (wc.heap.size + 1) by rw [← hW]; exact KpA)
    replace HP1 := Lib.hid (HP1.out.keep HK_W3.out)
    replace HP2 := Lib.hid (HP2.out.keep HK_W3.out)
    replace HN1 := Lib.hid (HN1.out.keep HK_W3.out)
    replace HN2 := Lib.hid (HN2.out.keep HK_W3.out)
    replace HD1 := Lib.hid (HD1.out.keep HK_W3.out)
    replace HD2 := Lib.hid (HD2.out.keep HK_W3.out)
    replace HB := Lib.hid (show Below w.heap.size w W3 by rw [← hW]; exact BlA)
    replace hN : N ≤ W3.heap.size := by rw [← hW]; (first | omega | (simp; done) | (simp; omega))
    replace hs0 : w.heap.size ≤ W3.heap.size := by rw [← hW]; (first | omega | (simp; done) | (simp; omega))
    replace hl_A : w.heap.size < W3.heap.size := by rw [← hW]; (first | omega | (simp; done) | (simp; omega))
    replace hl_P : wa.heap.size < W3.heap.size := by rw [← hW]; (first | omega | (simp; done) | (simp; omega))
    have hl_N : wc.heap.size < W3.heap.size := by rw [← hW]; (first | omega | (simp; done) | (simp; omega))
    have hl_D : wc.heap.size + 1 < W3.heap.size := by rw [← hW]; (first | omega | (simp; done) | (simp; omega))
    replace HA := Lib.hid (HA.out.below HL_W3.out)
    replace HAL := Lib.hid (HAL.out.below HL_W3.out)
    clear HL_W3
    clear hW HK_W3
    refine (rcmp_any (N := N) _ _ _ _ _ _ _ _ _ _ _ _ _ _ 9439 L P al _ hN (Rt.of_norm HP1.out HP2.out _ HTL.out) HAL.out (by omega) (by omega)).mono ?_
    rw [HK0.out]
    rintro e wd ⟨rfl, hb⟩
    have hs_wd : W3.heap.size ≤ wd.heap.size := hb.size
    replace k_A_0 : wd.cell? ⟨w.heap.size, 0, none⟩ = some (.bool s2) := (hb.cell (p := ⟨w.heap.size, 0, none⟩) hl_A).trans k_A_0
    replace k_A_1 : wd.cell? ⟨w.heap.size, 1, none⟩ = some (.slice a2 na2 ca2) := (hb.cell (p := ⟨w.heap.size, 1, none⟩) hl_A).trans k_A_1
    replace k_A_2 : wd.cell? ⟨w.heap.size, 2, none⟩ = some (.slice d2 nd2 cd2) := (hb.cell (p := ⟨w.heap.size, 2, none⟩) hl_A).trans k_A_2
    replace f_A : ∀ o, wd.frozen? ⟨w.heap.size, o, none⟩ = false := fun o => (hb.frozen (p := ⟨w.heap.size, o, none⟩) hl_A).trans (f_A o)
    replace HX_A := Lib.hid (HX_A.out.below hb)
    replace k_P_0 : wd.cell? ⟨wa.heap.size, 0, none⟩ = some (.bool (decide ((P).num < 0))) := (hb.cell (p := ⟨wa.heap.size, 0, none⟩) hl_P).trans k_P_0
    replace k_P_1 : wd.cell? ⟨wa.heap.size, 1, none⟩ = some (.slice rp (nlen (P).num.natAbs) cp) := (hb.cell (p := ⟨wa.heap.size, 1, none⟩) hl_P).trans k_P_1
    replace k_P_2 : wd.cell? ⟨wa.heap.size, 2, none⟩ = some (.slice rp2 (nlen (P).den) cp2) := (hb.cell (p := ⟨wa.heap.size, 2, none⟩) hl_P).trans k_P_2
    replace f_P : ∀ o, wd.frozen? ⟨wa.heap.size, o, none⟩ = false := fun o => (hb.frozen (p := ⟨wa.heap.size, o, none⟩) hl_P).trans (f_P o)
    replace HX_P := Lib.hid (HX_P.out.below hb)
    replace k_N_0 : wd.cell? ⟨wc.heap.size, 0, none⟩ = some (.bool (decide ((nu).num < 0))) := (hb.cell (p := ⟨wc.heap.size, 0, none⟩) hl_N).trans k_N_0
    replace k_N_1 : wd.cell? ⟨wc.heap.size, 1, none⟩ = some (.slice ru (nlen (nu).num.natAbs) cu) := (hb.cell (p := ⟨wc.heap.size, 1, none⟩) hl_N).trans k_N_1
    replace k_N_2 : wd.cell? ⟨wc.heap.size, 2, none⟩ = some (.slice ru2 (nlen (nu).den) cu2) := (hb.cell (p := ⟨wc.heap.size, 2, none⟩) hl_N).trans k_N_2
    replace f_N : ∀ o, wd.frozen? ⟨wc.heap.size, o, none⟩ = false := fun o => (hb.frozen (p := ⟨wc.heap.size, o, none⟩) hl_N).trans (f_N o)
    replace HX_N := Lib.hid (HX_N.out.below hb)
    replace k_D_0 : wd.cell? ⟨wc.heap.size + 1, 0, none⟩ = some (.bool (decide ((de).num < 0))) := (hb.cell (p := ⟨wc.heap.size + 1, 0, none⟩) hl_D).trans k_D_0
    replace k_D_1 : wd.cell? ⟨wc.heap.size + 1, 1, none⟩ = some (.slice rv (nlen (de).num.natAbs) cv) := (hb.cell (p := ⟨wc.heap.size + 1, 1, none⟩) hl_D).trans k_D_1
    replace k_D_2 : wd.cell? ⟨wc.heap.size + 1, 2, none⟩ = some (.slice rv2 (nlen (de).den) cv2) := (hb.cell (p := ⟨wc.heap.size + 1, 2, none⟩) hl_D).trans k_D_2
    replace f_D : ∀ o, wd.frozen? ⟨wc.heap.size + 1, o, none⟩ = false := fun o => (hb.frozen (p := ⟨wc.heap.size + 1, o, none⟩) hl_D).trans (f_D o)
    replace HX_D := Lib.hid (HX_D.out.below hb)
    replace HP1 := Lib.hid (HP1.out.below hb)
    replace HP2 := Lib.hid (HP2.out.below hb)
    replace HN1 := Lib.hid (HN1.out.below hb)
    replace HN2 := Lib.hid (HN2.out.below hb)
    replace HD1 := Lib.hid (HD1.out.below hb)
    replace HD2 := Lib.hid (HD2.out.below hb)
    replace HB := Lib.hid (HB.out.trans (hb.mono hs0))
    replace hN : N ≤ wd.heap.size := Nat.le_trans hN hb.size
    replace hs0 : w.heap.size ≤ wd.heap.size := Nat.le_trans hs0 hb.size
    replace hl_A : w.heap.size < wd.heap.size := Nat.lt_of_lt_of_le hl_A hb.size
    replace hl_P : wa.heap.size < wd.heap.size := Nat.lt_of_lt_of_le hl_P hb.size
    replace hl_N : wc.heap.size < wd.heap.size := Nat.lt_of_lt_of_le hl_N hb.size
    replace hl_D : wc.heap.size + 1 < wd.heap.size := Nat.lt_of_lt_of_le hl_D hb.size
    replace HA := Lib.hid (HA.out.below hb)
    replace HAL := Lib.hid (HAL.out.below hb)
    clear hb
    clear hl_A f_A HX_A k_A_0 k_A_1 k_A_2
    clear hl_P f_P HX_P k_P_0 k_P_1 k_P_2
    clear HP1
    clear HP2
    clear HAL
    clear HA
    by_cases c0 : 0 < κ0
    · have c0d : decide (0 < κ0) = true := by simpa using c0
      go_wp2_with fail
      refine bodyPost_ret (v := .tuple #[.int .i64 (0), .int .i64 0]) (by simp [results, Tryd.results12, go_sem]) rfl ⟨?_, HB.out⟩
      rw [show c = 0 by rw [← HCL.out]; unfold claC; (repeat' split) <;> first | rfl | (exfalso; omega)]; rfl
    · have c0d : decide (0 < κ0) = false := by simpa using c0
      go_wp2_with fail
      refine calls_name fun W4 hW => ?_
      have HL_W4 := Lib.hid (show Below wd.heap.size wd W4 by rw [← hW]; exact BlA)
      have hs_W4 : wd.heap.size ≤ W4.heap.size := by rw [← hW]; (first | omega | (simp; done) | (simp; omega))
      have HK_W4 := Lib.hid (show Kp N wd W4 by rw [← hW]; exact KpA)
      replace k_N_0 : W4.cell? ⟨wc.heap.size, 0, none⟩ = some (.bool (decide ((nu).num < 0))) := (HL_W4.out.cell (p := ⟨wc.heap.size, 0, none⟩) hl_N).trans k_N_0
      replace k_N_1 : W4.cell? ⟨wc.heap.size, 1, none⟩ = some (.slice ru (nlen (nu).num.natAbs) cu) := (HL_W4.out.cell (p := ⟨wc.heap.size, 1, none⟩) hl_N).trans k_N_1
      replace k_N_2 : W4.cell? ⟨wc.heap.size, 2, none⟩ = some (.slice ru2 (nlen (nu).den) cu2) := (HL_W4.out.cell (p := ⟨wc.heap.size, 2, none⟩) hl_N).trans k_N_2
      replace f_N : ∀ o, W4.frozen? ⟨wc.heap.size, o, none⟩ = false := fun o => (HL_W4.out.frozen (p := ⟨wc.heap.size, o, none⟩) hl_N).trans (f_N o)
      replace HX_N := Lib.hid (show Bn W4 (wc.heap.size) by rw [← hW]; exact KpA)
      replace k_D_0 : W4.cell? ⟨wc.heap.size + 1, 0, none⟩ = some (.bool (decide ((de).num < 0))) := (HL_W4.out.cell (p := ⟨wc.heap.size + 1, 0, none⟩) hl_D).trans k_D_0
      replace k_D_1 : W4.cell? ⟨wc.heap.size + 1, 1, none⟩ = some (.slice rv (nlen (de).num.natAbs) cv) := (HL_W4.out.cell (p := ⟨wc.heap.size + 1, 1, none⟩) hl_D).trans k_D_1
      replace k_D_2 : W4.cell? ⟨wc.heap.size + 1, 2, none⟩ = some (.slice rv2 (nlen (de).den) cv2) := (HL_W4.out.cell (p := ⟨wc.heap.size + 1, 2, none⟩) hl_D).trans k_D_2
      replace f_D : ∀ o, W4.frozen? ⟨wc.heap.size + 1, o, none⟩ = false := fun o => (HL_W4.out.frozen (p := ⟨wc.heap.size + 1, o, none⟩) hl_D).trans (f_D o)
      replace HX_D := Lib.hid (show Bn W4 (wc.heap.size + 1) by rw [← hW]; exact KpA)
      replace HN1 := Lib.hid (HN1.out.keep HK_W4.out)
      replace HN2 := Lib.hid (HN2.out.keep HK_W4.out)
      replace HD1 := Lib.hid (HD1.out.keep HK_W4.out)
      replace HD2 := Lib.hid (HD2.out.keep HK_W4.out)
      replace HB := Lib.hid (show Below w.heap.size w W4 by rw [← hW]; exact BlA)
      replace hN : N ≤ W4.heap.size := by rw [← hW]; (first | omega | (simp; done) | (simp; omega))
      replace hs0 : w.heap.size ≤ W4.heap.size := by rw [← hW]; (first | omega | (simp; done) | (simp; omega))
      replace hl_N : wc.heap.size < W4.heap.size := by rw [← hW]; (first | omega | (simp; done) | (simp; omega))
      replace hl_D : wc.heap.size + 1 < W4.heap.size := by rw [← hW]; (first | omega | (simp; done) | (simp; omega))
      clear HL_W4
      clear hW HK_W4
      refine (against_any (N := N) 2 3 _ _ nu de p23 _ hN ⟨_, _, _, _, ⟨hl_N, HX_N.out, f_N, k_N_0, k_N_1, k_N_2⟩, HN1.out, HN2.out⟩ ⟨_, _, _, _, ⟨hl_D, HX_D.out, f_D, k_D_0, k_D_1, k_D_2⟩, HD1.out, HD2.out⟩ HZN.out HZD.out (by omega) (by omega) (by omega) (by omega) HP23.out HZ23.out κ23 HK23.out).mono ?_
      rintro e wx4 ⟨rfl, hb⟩
      have hs_wx4 : W4.heap.size ≤ wx4.heap.size := hb.size
      replace k_N_0 : wx4.cell? ⟨wc.heap.size, 0, none⟩ = some (.bool (decide ((nu).num < 0))) := (hb.cell (p := ⟨wc.heap.size, 0, none⟩) hl_N).trans k_N_0
      replace k_N_1 : wx4.cell? ⟨wc.heap.size, 1, none⟩ = some (.slice ru (nlen (nu).num.natAbs) cu) := (hb.cell (p := ⟨wc.heap.size, 1, none⟩) hl_N).trans k_N_1
      replace k_N_2 : wx4.cell? ⟨wc.heap.size, 2, none⟩ = some (.slice ru2 (nlen (nu).den) cu2) := (hb.cell (p := ⟨wc.heap.size, 2, none⟩) hl_N).trans k_N_2
      replace f_N : ∀ o, wx4.frozen? ⟨wc.heap.size, o, none⟩ = false := fun o => (hb.frozen (p := ⟨wc.heap.size, o, none⟩) hl_N).trans (f_N o)
      replace HX_N := Lib.hid (HX_N.out.below hb)
      replace k_D_0 : wx4.cell? ⟨wc.heap.size + 1, 0, none⟩ = some (.bool (decide ((de).num < 0))) := (hb.cell (p := ⟨wc.heap.size + 1, 0, none⟩) hl_D).trans k_D_0
      replace k_D_1 : wx4.cell? ⟨wc.heap.size + 1, 1, none⟩ = some (.slice rv (nlen (de).num.natAbs) cv) := (hb.cell (p := ⟨wc.heap.size + 1, 1, none⟩) hl_D).trans k_D_1
      replace k_D_2 : wx4.cell? ⟨wc.heap.size + 1, 2, none⟩ = some (.slice rv2 (nlen (de).den) cv2) := (hb.cell (p := ⟨wc.heap.size + 1, 2, none⟩) hl_D).trans k_D_2
      replace f_D : ∀ o, wx4.frozen? ⟨wc.heap.size + 1, o, none⟩ = false := fun o => (hb.frozen (p := ⟨wc.heap.size + 1, o, none⟩) hl_D).trans (f_D o)
      replace HX_D := Lib.hid (HX_D.out.below hb)
      replace HN1 := Lib.hid (HN1.out.below hb)
      replace HN2 := Lib.hid (HN2.out.below hb)
      replace HD1 := Lib.hid (HD1.out.below hb)
      replace HD2 := Lib.hid (HD2.out.below hb)
      replace HB := Lib.hid (HB.out.trans (hb.mono hs0))
      replace hN : N ≤ wx4.heap.size := Nat.le_trans hN hb.size
      replace hs0 : w.heap.size ≤ wx4.heap.size := Nat.le_trans hs0 hb.size
      replace hl_N : wc.heap.size < wx4.heap.size := Nat.lt_of_lt_of_le hl_N hb.size
      replace hl_D : wc.heap.size + 1 < wx4.heap.size := Nat.lt_of_lt_of_le hl_D hb.size
      clear hb
      by_cases c23 : 0 ≤ κ23
      · have c23d : decide (0 ≤ κ23) = true := by simpa using c23
        go_wp2_with fail
        refine calls_name fun W5 hW => ?_
        have HL_W5 := Lib.hid (show Below wx4.heap.size wx4 W5 by rw [← hW]; exact BlA)
        have hs_W5 : wx4.heap.size ≤ W5.heap.size := by rw [← hW]; (first | omega | (simp; done) | (simp; omega))
        have HK_W5 := Lib.hid (show Kp N wx4 W5 by rw [← hW]; exact KpA)
        replace k_N_0 : W5.cell? ⟨wc.heap.size, 0, none⟩ = some (.bool (decide ((nu).num < 0))) := (HL_W5.out.cell (p := ⟨wc.heap.size, 0, none⟩) hl_N).trans k_N_0
        replace k_N_1 : W5.cell? ⟨wc.heap.size, 1, none⟩ = some (.slice ru (nlen (nu).num.natAbs) cu) := (HL_W5.out.cell (p := ⟨wc.heap.size, 1, none⟩) hl_N).trans k_N_1
        replace k_N_2 : W5.cell? ⟨wc.heap.size, 2, none⟩ = some (.slice ru2 (nlen (nu).den) cu2) := (HL_W5.out.cell (p := ⟨wc.heap.size, 2, none⟩) hl_N).trans k_N_2
        replace f_N : ∀ o, W5.frozen? ⟨wc.heap.size, o, none⟩ = false := fun o => (HL_W5.out.frozen (p := ⟨wc.heap.size, o, none⟩) hl_N).trans (f_N o)
        replace HX_N := Lib.hid (show Bn W5 (wc.heap.size) by rw [← hW]; exact KpA)
        replace k_D_0 : W5.cell? ⟨wc.heap.size + 1, 0, none⟩ = some (.bool (decide ((de).num < 0))) := (HL_W5.out.cell (p := ⟨wc.heap.size + 1, 0, none⟩) hl_D).trans k_D_0
        replace k_D_1 : W5.cell? ⟨wc.heap.size + 1, 1, none⟩ = some (.slice rv (nlen (de).num.natAbs) cv) := (HL_W5.out.cell (p := ⟨wc.heap.size + 1, 1, none⟩) hl_D).trans k_D_1
        replace k_D_2 : W5.cell? ⟨wc.heap.size + 1, 2, none⟩ = some (.slice rv2 (nlen (de).den) cv2) := (HL_W5.out.cell (p := ⟨wc.heap.size + 1, 2, none⟩) hl_D).trans k_D_2
        replace f_D : ∀ o, W5.frozen? ⟨wc.heap.size + 1, o, none⟩ = false := fun o => (HL_W5.out.frozen (p := ⟨wc.heap.size + 1, o, none⟩) hl_D).trans (f_D o)
        replace HX_D := Lib.hid (show Bn W5 (wc.heap.size + 1) by rw [← hW]; exact KpA)
        replace HN1 := Lib.hid (HN1.out.keep HK_W5.out)
        replace HN2 := Lib.hid (HN2.out.keep HK_W5.out)
        replace HD1 := Lib.hid (HD1.out.keep HK_W5.out)
        replace HD2 := Lib.hid (HD2.out.keep HK_W5.out)
        replace HB := Lib.hid (show Below w.heap.size w W5 by rw [← hW]; exact BlA)
        replace hN : N ≤ W5.heap.size := by rw [← hW]; (first | omega | (simp; done) | (simp; omega))
        replace hs0 : w.heap.size ≤ W5.heap.size := by rw [← hW]; (first | omega | (simp; done) | (simp; omega))
        replace hl_N : wc.heap.size < W5.heap.size := by rw [← hW]; (first | omega | (simp; done) | (simp; omega))
        replace hl_D : wc.heap.size + 1 < W5.heap.size := by rw [← hW]; (first | omega | (simp; done) | (simp; omega))
        clear HL_W5
        clear hW HK_W5
        refine (against_any (N := N) 3 2 _ _ nu de p32 _ hN ⟨_, _, _, _, ⟨hl_N, HX_N.out, f_N, k_N_0, k_N_1, k_N_2⟩, HN1.out, HN2.out⟩ ⟨_, _, _, _, ⟨hl_D, HX_D.out, f_D, k_D_0, k_D_1, k_D_2⟩, HD1.out, HD2.out⟩ HZN.out HZD.out (by omega) (by omega) (by omega) (by omega) HP32.out HZ32.out κ32 HK32.out).mono ?_
        rintro e wx5 ⟨rfl, hb⟩
        have hs_wx5 : W5.heap.size ≤ wx5.heap.size := hb.size
        replace k_N_0 : wx5.cell? ⟨wc.heap.size, 0, none⟩ = some (.bool (decide ((nu).num < 0))) := (hb.cell (p := ⟨wc.heap.size, 0, none⟩) hl_N).trans k_N_0
        replace k_N_1 : wx5.cell? ⟨wc.heap.size, 1, none⟩ = some (.slice ru (nlen (nu).num.natAbs) cu) := (hb.cell (p := ⟨wc.heap.size, 1, none⟩) hl_N).trans k_N_1
        replace k_N_2 : wx5.cell? ⟨wc.heap.size, 2, none⟩ = some (.slice ru2 (nlen (nu).den) cu2) := (hb.cell (p := ⟨wc.heap.size, 2, none⟩) hl_N).trans k_N_2
        replace f_N : ∀ o, wx5.frozen? ⟨wc.heap.size, o, none⟩ = false := fun o => (hb.frozen (p := ⟨wc.heap.size, o, none⟩) hl_N).trans (f_N o)
        replace HX_N := Lib.hid (HX_N.out.below hb)
        replace k_D_0 : wx5.cell? ⟨wc.heap.size + 1, 0, none⟩ = some (.bool (decide ((de).num < 0))) := (hb.cell (p := ⟨wc.heap.size + 1, 0, none⟩) hl_D).trans k_D_0
        replace k_D_1 : wx5.cell? ⟨wc.heap.size + 1, 1, none⟩ = some (.slice rv (nlen (de).num.natAbs) cv) := (hb.cell (p := ⟨wc.heap.size + 1, 1, none⟩) hl_D).trans k_D_1
        replace k_D_2 : wx5.cell? ⟨wc.heap.size + 1, 2, none⟩ = some (.slice rv2 (nlen (de).den) cv2) := (hb.cell (p := ⟨wc.heap.size + 1, 2, none⟩) hl_D).trans k_D_2
        replace f_D : ∀ o, wx5.frozen? ⟨wc.heap.size + 1, o, none⟩ = false := fun o => (hb.frozen (p := ⟨wc.heap.size + 1, o, none⟩) hl_D).trans (f_D o)
        replace HX_D := Lib.hid (HX_D.out.below hb)
        replace HN1 := Lib.hid (HN1.out.below hb)
        replace HN2 := Lib.hid (HN2.out.below hb)
        replace HD1 := Lib.hid (HD1.out.below hb)
        replace HD2 := Lib.hid (HD2.out.below hb)
        replace HB := Lib.hid (HB.out.trans (hb.mono hs0))
        replace hN : N ≤ wx5.heap.size := Nat.le_trans hN hb.size
        replace hs0 : w.heap.size ≤ wx5.heap.size := Nat.le_trans hs0 hb.size
        replace hl_N : wc.heap.size < wx5.heap.size := Nat.lt_of_lt_of_le hl_N hb.size
        replace hl_D : wc.heap.size + 1 < wx5.heap.size := Nat.lt_of_lt_of_le hl_D hb.size
        clear hb
        by_cases c32 : κ32 ≤ 0
        · have c32d : decide (κ32 ≤ 0) = true := by simpa using c32
          go_wp2_with fail
          refine bodyPost_ret (v := .tuple #[.int .i64 (0), .int .i64 0]) (by simp [results, Tryd.results12, go_sem]) rfl ⟨?_, HB.out⟩
          rw [show c = 0 by rw [← HCL.out]; unfold claC; (repeat' split) <;> first | rfl | (exfalso; omega)]; rfl
        · have c32d : decide (κ32 ≤ 0) = false := by simpa using c32
          go_wp2_with fail
          refine calls_name fun W6 hW => ?_
          have HL_W6 := Lib.hid (show Below wx5.heap.size wx5 W6 by rw [← hW]; exact BlA)
          have hs_W6 : wx5.heap.size ≤ W6.heap.size := by rw [← hW]; (first | omega | (simp; done) | (simp; omega))
          have HK_W6 := Lib.hid (show Kp N wx5 W6 by rw [← hW]; exact KpA)
          replace k_N_0 : W6.cell? ⟨wc.heap.size, 0, none⟩ = some (.bool (decide ((nu).num < 0))) := (HL_W6.out.cell (p := ⟨wc.heap.size, 0, none⟩) hl_N).trans k_N_0
          replace k_N_1 : W6.cell? ⟨wc.heap.size, 1, none⟩ = some (.slice ru (nlen (nu).num.natAbs) cu) := (HL_W6.out.cell (p := ⟨wc.heap.size, 1, none⟩) hl_N).trans k_N_1
          replace k_N_2 : W6.cell? ⟨wc.heap.size, 2, none⟩ = some (.slice ru2 (nlen (nu).den) cu2) := (HL_W6.out.cell (p := ⟨wc.heap.size, 2, none⟩) hl_N).trans k_N_2
          replace f_N : ∀ o, W6.frozen? ⟨wc.heap.size, o, none⟩ = false := fun o => (HL_W6.out.frozen (p := ⟨wc.heap.size, o, none⟩) hl_N).trans (f_N o)
          replace HX_N := Lib.hid (show Bn W6 (wc.heap.size) by rw [← hW]; exact KpA)
          replace k_D_0 : W6.cell? ⟨wc.heap.size + 1, 0, none⟩ = some (.bool (decide ((de).num < 0))) := (HL_W6.out.cell (p := ⟨wc.heap.size + 1, 0, none⟩) hl_D).trans k_D_0
          replace k_D_1 : W6.cell? ⟨wc.heap.size + 1, 1, none⟩ = some (.slice rv (nlen (de).num.natAbs) cv) := (HL_W6.out.cell (p := ⟨wc.heap.size + 1, 1, none⟩) hl_D).trans k_D_1
          replace k_D_2 : W6.cell? ⟨wc.heap.size + 1, 2, none⟩ = some (.slice rv2 (nlen (de).den) cv2) := (HL_W6.out.cell (p := ⟨wc.heap.size + 1, 2, none⟩) hl_D).trans k_D_2
          replace f_D : ∀ o, W6.frozen? ⟨wc.heap.size + 1, o, none⟩ = false := fun o => (HL_W6.out.frozen (p := ⟨wc.heap.size + 1, o, none⟩) hl_D).trans (f_D o)
          replace HX_D := Lib.hid (show Bn W6 (wc.heap.size + 1) by rw [← hW]; exact KpA)
          replace HN1 := Lib.hid (HN1.out.keep HK_W6.out)
          replace HN2 := Lib.hid (HN2.out.keep HK_W6.out)
          replace HD1 := Lib.hid (HD1.out.keep HK_W6.out)
          replace HD2 := Lib.hid (HD2.out.keep HK_W6.out)
          replace HB := Lib.hid (show Below w.heap.size w W6 by rw [← hW]; exact BlA)
          replace hN : N ≤ W6.heap.size := by rw [← hW]; (first | omega | (simp; done) | (simp; omega))
          replace hs0 : w.heap.size ≤ W6.heap.size := by rw [← hW]; (first | omega | (simp; done) | (simp; omega))
          replace hl_N : wc.heap.size < W6.heap.size := by rw [← hW]; (first | omega | (simp; done) | (simp; omega))
          replace hl_D : wc.heap.size + 1 < W6.heap.size := by rw [← hW]; (first | omega | (simp; done) | (simp; omega))
          clear HL_W6
          clear hW HK_W6
          refine (against_any (N := N) 2 1 _ _ nu de p21 _ hN ⟨_, _, _, _, ⟨hl_N, HX_N.out, f_N, k_N_0, k_N_1, k_N_2⟩, HN1.out, HN2.out⟩ ⟨_, _, _, _, ⟨hl_D, HX_D.out, f_D, k_D_0, k_D_1, k_D_2⟩, HD1.out, HD2.out⟩ HZN.out HZD.out (by omega) (by omega) (by omega) (by omega) HP21.out HZ21.out κ21 HK21.out).mono ?_
          rintro e wx6 ⟨rfl, hb⟩
          have hs_wx6 : W6.heap.size ≤ wx6.heap.size := hb.size
          replace k_N_0 : wx6.cell? ⟨wc.heap.size, 0, none⟩ = some (.bool (decide ((nu).num < 0))) := (hb.cell (p := ⟨wc.heap.size, 0, none⟩) hl_N).trans k_N_0
          replace k_N_1 : wx6.cell? ⟨wc.heap.size, 1, none⟩ = some (.slice ru (nlen (nu).num.natAbs) cu) := (hb.cell (p := ⟨wc.heap.size, 1, none⟩) hl_N).trans k_N_1
          replace k_N_2 : wx6.cell? ⟨wc.heap.size, 2, none⟩ = some (.slice ru2 (nlen (nu).den) cu2) := (hb.cell (p := ⟨wc.heap.size, 2, none⟩) hl_N).trans k_N_2
          replace f_N : ∀ o, wx6.frozen? ⟨wc.heap.size, o, none⟩ = false := fun o => (hb.frozen (p := ⟨wc.heap.size, o, none⟩) hl_N).trans (f_N o)
          replace HX_N := Lib.hid (HX_N.out.below hb)
          replace k_D_0 : wx6.cell? ⟨wc.heap.size + 1, 0, none⟩ = some (.bool (decide ((de).num < 0))) := (hb.cell (p := ⟨wc.heap.size + 1, 0, none⟩) hl_D).trans k_D_0
          replace k_D_1 : wx6.cell? ⟨wc.heap.size + 1, 1, none⟩ = some (.slice rv (nlen (de).num.natAbs) cv) := (hb.cell (p := ⟨wc.heap.size + 1, 1, none⟩) hl_D).trans k_D_1
          replace k_D_2 : wx6.cell? ⟨wc.heap.size + 1, 2, none⟩ = some (.slice rv2 (nlen (de).den) cv2) := (hb.cell (p := ⟨wc.heap.size + 1, 2, none⟩) hl_D).trans k_D_2
          replace f_D : ∀ o, wx6.frozen? ⟨wc.heap.size + 1, o, none⟩ = false := fun o => (hb.frozen (p := ⟨wc.heap.size + 1, o, none⟩) hl_D).trans (f_D o)
          replace HX_D := Lib.hid (HX_D.out.below hb)
          replace HN1 := Lib.hid (HN1.out.below hb)
          replace HN2 := Lib.hid (HN2.out.below hb)
          replace HD1 := Lib.hid (HD1.out.below hb)
          replace HD2 := Lib.hid (HD2.out.below hb)
          replace HB := Lib.hid (HB.out.trans (hb.mono hs0))
          replace hN : N ≤ wx6.heap.size := Nat.le_trans hN hb.size
          replace hs0 : w.heap.size ≤ wx6.heap.size := Nat.le_trans hs0 hb.size
          replace hl_N : wc.heap.size < wx6.heap.size := Nat.lt_of_lt_of_le hl_N hb.size
          replace hl_D : wc.heap.size + 1 < wx6.heap.size := Nat.lt_of_lt_of_le hl_D hb.size
          clear hb
          by_cases c21 : 0 < κ21
          · have c21d : decide (0 < κ21) = true := by simpa using c21
            go_wp2_with fail
            refine calls_name fun W7 hW => ?_
            have HL_W7 := Lib.hid (show Below wx6.heap.size wx6 W7 by rw [← hW]; exact BlA)
            have hs_W7 : wx6.heap.size ≤ W7.heap.size := by rw [← hW]; (first | omega | (simp; done) | (simp; omega))
            have HK_W7 := Lib.hid (show Kp N wx6 W7 by rw [← hW]; exact KpA)
            replace k_N_0 : W7.cell? ⟨wc.heap.size, 0, none⟩ = some (.bool (decide ((nu).num < 0))) := (HL_W7.out.cell (p := ⟨wc.heap.size, 0, none⟩) hl_N).trans k_N_0
            replace k_N_1 : W7.cell? ⟨wc.heap.size, 1, none⟩ = some (.slice ru (nlen (nu).num.natAbs) cu) := (HL_W7.out.cell (p := ⟨wc.heap.size, 1, none⟩) hl_N).trans k_N_1
            replace k_N_2 : W7.cell? ⟨wc.heap.size, 2, none⟩ = some (.slice ru2 (nlen (nu).den) cu2) := (HL_W7.out.cell (p := ⟨wc.heap.size, 2, none⟩) hl_N).trans k_N_2
            replace f_N : ∀ o, W7.frozen? ⟨wc.heap.size, o, none⟩ = false := fun o => (HL_W7.out.frozen (p := ⟨wc.heap.size, o, none⟩) hl_N).trans (f_N o)
            replace HX_N := Lib.hid (show Bn W7 (wc.heap.size) by rw [← hW]; exact KpA)
            replace k_D_0 : W7.cell? ⟨wc.heap.size + 1, 0, none⟩ = some (.bool (decide ((de).num < 0))) := (HL_W7.out.cell (p := ⟨wc.heap.size + 1, 0, none⟩) hl_D).trans k_D_0
            replace k_D_1 : W7.cell? ⟨wc.heap.size + 1, 1, none⟩ = some (.slice rv (nlen (de).num.natAbs) cv) := (HL_W7.out.cell (p := ⟨wc.heap.size + 1, 1, none⟩) hl_D).trans k_D_1
            replace k_D_2 : W7.cell? ⟨wc.heap.size + 1, 2, none⟩ = some (.slice rv2 (nlen (de).den) cv2) := (HL_W7.out.cell (p := ⟨wc.heap.size + 1, 2, none⟩) hl_D).trans k_D_2
            replace f_D : ∀ o, W7.frozen? ⟨wc.heap.size + 1, o, none⟩ = false := fun o => (HL_W7.out.frozen (p := ⟨wc.heap.size + 1, o, none⟩) hl_D).trans (f_D o)
            replace HX_D := Lib.hid (show Bn W7 (wc.heap.size + 1) by rw [← hW]; exact KpA)
            replace HN1 := Lib.hid (HN1.out.keep HK_W7.out)
            replace HN2 := Lib.hid (HN2.out.keep HK_W7.out)
            replace HD1 := Lib.hid (HD1.out.keep HK_W7.out)
            replace HD2 := Lib.hid (HD2.out.keep HK_W7.out)
            replace HB := Lib.hid (show Below w.heap.size w W7 by rw [← hW]; exact BlA)
            replace hN : N ≤ W7.heap.size := by rw [← hW]; (first | omega | (simp; done) | (simp; omega))
            replace hs0 : w.heap.size ≤ W7.heap.size := by rw [← hW]; (first | omega | (simp; done) | (simp; omega))
            replace hl_N : wc.heap.size < W7.heap.size := by rw [← hW]; (first | omega | (simp; done) | (simp; omega))
            replace hl_D : wc.heap.size + 1 < W7.heap.size := by rw [← hW]; (first | omega | (simp; done) | (simp; omega))
            clear HL_W7
            clear hW HK_W7
            refine (against_any (N := N) 1 1 _ _ nu de p11 _ hN ⟨_, _, _, _, ⟨hl_N, HX_N.out, f_N, k_N_0, k_N_1, k_N_2⟩, HN1.out, HN2.out⟩ ⟨_, _, _, _, ⟨hl_D, HX_D.out, f_D, k_D_0, k_D_1, k_D_2⟩, HD1.out, HD2.out⟩ HZN.out HZD.out (by omega) (by omega) (by omega) (by omega) HP11.out HZ11.out κ11 HK11.out).mono ?_
            rintro e wx7 ⟨rfl, hb⟩
            have hs_wx7 : W7.heap.size ≤ wx7.heap.size := hb.size
            replace k_N_0 : wx7.cell? ⟨wc.heap.size, 0, none⟩ = some (.bool (decide ((nu).num < 0))) := (hb.cell (p := ⟨wc.heap.size, 0, none⟩) hl_N).trans k_N_0
            replace k_N_1 : wx7.cell? ⟨wc.heap.size, 1, none⟩ = some (.slice ru (nlen (nu).num.natAbs) cu) := (hb.cell (p := ⟨wc.heap.size, 1, none⟩) hl_N).trans k_N_1
            replace k_N_2 : wx7.cell? ⟨wc.heap.size, 2, none⟩ = some (.slice ru2 (nlen (nu).den) cu2) := (hb.cell (p := ⟨wc.heap.size, 2, none⟩) hl_N).trans k_N_2
            replace f_N : ∀ o, wx7.frozen? ⟨wc.heap.size, o, none⟩ = false := fun o => (hb.frozen (p := ⟨wc.heap.size, o, none⟩) hl_N).trans (f_N o)
            replace HX_N := Lib.hid (HX_N.out.below hb)
            replace k_D_0 : wx7.cell? ⟨wc.heap.size + 1, 0, none⟩ = some (.bool (decide ((de).num < 0))) := (hb.cell (p := ⟨wc.heap.size + 1, 0, none⟩) hl_D).trans k_D_0
            replace k_D_1 : wx7.cell? ⟨wc.heap.size + 1, 1, none⟩ = some (.slice rv (nlen (de).num.natAbs) cv) := (hb.cell (p := ⟨wc.heap.size + 1, 1, none⟩) hl_D).trans k_D_1
            replace k_D_2 : wx7.cell? ⟨wc.heap.size + 1, 2, none⟩ = some (.slice rv2 (nlen (de).den) cv2) := (hb.cell (p := ⟨wc.heap.size + 1, 2, none⟩) hl_D).trans k_D_2
            replace f_D : ∀ o, wx7.frozen? ⟨wc.heap.size + 1, o, none⟩ = false := fun o => (hb.frozen (p := ⟨wc.heap.size + 1, o, none⟩) hl_D).trans (f_D o)
            replace HX_D := Lib.hid (HX_D.out.below hb)
            replace HN1 := Lib.hid (HN1.out.below hb)
            replace HN2 := Lib.hid (HN2.out.below hb)
            replace HD1 := Lib.hid (HD1.out.below hb)
            replace HD2 := Lib.hid (HD2.out.below hb)
            replace HB := Lib.hid (HB.out.trans (hb.mono hs0))
            replace hN : N ≤ wx7.heap.size := Nat.le_trans hN hb.size
            replace hs0 : w.heap.size ≤ wx7.heap.size := Nat.le_trans hs0 hb.size
            replace hl_N : wc.heap.size < wx7.heap.size := Nat.lt_of_lt_of_le hl_N hb.size
            replace hl_D : wc.heap.size + 1 < wx7.heap.size := Nat.lt_of_lt_of_le hl_D hb.size
            clear hb
            by_cases c11 : κ11 < 0
            · have c11d : decide (κ11 < 0) = true := by simpa using c11
              go_wp2_with fail
              refine bodyPost_ret (v := .tuple #[.int .i64 (-2), .int .i64 0]) (by simp [results, Tryd.results12, go_sem]) rfl ⟨?_, HB.out⟩
              rw [show c = -2 by rw [← HCL.out]; unfold claC; (repeat' split) <;> first | rfl | (exfalso; omega)]; rfl
            · have c11d : decide (κ11 < 0) = false := by simpa using c11
              go_wp2_with fail
              refine bodyPost_ret (v := .tuple #[.int .i64 (2), .int .i64 0]) (by simp [results, Tryd.results12, go_sem]) rfl ⟨?_, HB.out⟩
              rw [show c = 2 by rw [← HCL.out]; unfold claC; (repeat' split) <;> first | rfl | (exfalso; omega)]; rfl
          · have c21d : decide (0 < κ21) = false := by simpa using c21
            go_wp2_with fail
            refine calls_name fun W8 hW => ?_
            have HL_W8 := Lib.hid (show Below wx6.heap.size wx6 W8 by rw [← hW]; exact BlA)
            have hs_W8 : wx6.heap.size ≤ W8.heap.size := by rw [← hW]; (first | omega | (simp; done) | (simp; omega))
            have HK_W8 := Lib.hid (show Kp N wx6 W8 by rw [← hW]; exact KpA)
            replace k_N_0 : W8.cell? ⟨wc.heap.size, 0, none⟩ = some (.bool (decide ((nu).num < 0))) := (HL_W8.out.cell (p := ⟨wc.heap.size, 0, none⟩) hl_N).trans k_N_0
            replace k_N_1 : W8.cell? ⟨wc.heap.size, 1, none⟩ = some (.slice ru (nlen (nu).num.natAbs) cu) := (HL_W8.out.cell (p := ⟨wc.heap.size, 1, none⟩) hl_N).trans k_N_1
            replace k_N_2 : W8.cell? ⟨wc.heap.size, 2, none⟩ = some (.slice ru2 (nlen (nu).den) cu2) := (HL_W8.out.cell (p := ⟨wc.heap.size, 2, none⟩) hl_N).trans k_N_2
            replace f_N : ∀ o, W8.frozen? ⟨wc.heap.size, o, none⟩ = false := fun o => (HL_W8.out.frozen (p := ⟨wc.heap.size, o, none⟩) hl_N).trans (f_N o)
            replace HX_N := Lib.hid (show Bn W8 (wc.heap.size) by rw [← hW]; exact KpA)
            replace k_D_0 : W8.cell? ⟨wc.heap.size + 1, 0, none⟩ = some (.bool (decide ((de).num < 0))) := (HL_W8.out.cell (p := ⟨wc.heap.size + 1, 0, none⟩) hl_D).trans k_D_0
            replace k_D_1 : W8.cell? ⟨wc.heap.size + 1, 1, none⟩ = some (.slice rv (nlen (de).num.natAbs) cv) := (HL_W8.out.cell (p := ⟨wc.heap.size + 1, 1, none⟩) hl_D).trans k_D_1
            replace k_D_2 : W8.cell? ⟨wc.heap.size + 1, 2, none⟩ = some (.slice rv2 (nlen (de).den) cv2) := (HL_W8.out.cell (p := ⟨wc.heap.size + 1, 2, none⟩) hl_D).trans k_D_2
            replace f_D : ∀ o, W8.frozen? ⟨wc.heap.size + 1, o, none⟩ = false := fun o => (HL_W8.out.frozen (p := ⟨wc.heap.size + 1, o, none⟩) hl_D).trans (f_D o)
            replace HX_D := Lib.hid (show Bn W8 (wc.heap.size + 1) by rw [← hW]; exact KpA)
            replace HN1 := Lib.hid (HN1.out.keep HK_W8.out)
            replace HN2 := Lib.hid (HN2.out.keep HK_W8.out)
            replace HD1 := Lib.hid (HD1.out.keep HK_W8.out)
            replace HD2 := Lib.hid (HD2.out.keep HK_W8.out)
            replace HB := Lib.hid (show Below w.heap.size w W8 by rw [← hW]; exact BlA)
            replace hN : N ≤ W8.heap.size := by rw [← hW]; (first | omega | (simp; done) | (simp; omega))
            replace hs0 : w.heap.size ≤ W8.heap.size := by rw [← hW]; (first | omega | (simp; done) | (simp; omega))
            replace hl_N : wc.heap.size < W8.heap.size := by rw [← hW]; (first | omega | (simp; done) | (simp; omega))
            replace hl_D : wc.heap.size + 1 < W8.heap.size := by rw [← hW]; (first | omega | (simp; done) | (simp; omega))
            clear HL_W8
            clear hW HK_W8
            refine (against_any (N := N) 1 2 _ _ nu de p12 _ hN ⟨_, _, _, _, ⟨hl_N, HX_N.out, f_N, k_N_0, k_N_1, k_N_2⟩, HN1.out, HN2.out⟩ ⟨_, _, _, _, ⟨hl_D, HX_D.out, f_D, k_D_0, k_D_1, k_D_2⟩, HD1.out, HD2.out⟩ HZN.out HZD.out (by omega) (by omega) (by omega) (by omega) HP12.out HZ12.out κ12 HK12.out).mono ?_
            rintro e wx8 ⟨rfl, hb⟩
            have hs_wx8 : W8.heap.size ≤ wx8.heap.size := hb.size
            replace k_N_0 : wx8.cell? ⟨wc.heap.size, 0, none⟩ = some (.bool (decide ((nu).num < 0))) := (hb.cell (p := ⟨wc.heap.size, 0, none⟩) hl_N).trans k_N_0
            replace k_N_1 : wx8.cell? ⟨wc.heap.size, 1, none⟩ = some (.slice ru (nlen (nu).num.natAbs) cu) := (hb.cell (p := ⟨wc.heap.size, 1, none⟩) hl_N).trans k_N_1
            replace k_N_2 : wx8.cell? ⟨wc.heap.size, 2, none⟩ = some (.slice ru2 (nlen (nu).den) cu2) := (hb.cell (p := ⟨wc.heap.size, 2, none⟩) hl_N).trans k_N_2
            replace f_N : ∀ o, wx8.frozen? ⟨wc.heap.size, o, none⟩ = false := fun o => (hb.frozen (p := ⟨wc.heap.size, o, none⟩) hl_N).trans (f_N o)
            replace HX_N := Lib.hid (HX_N.out.below hb)
            replace k_D_0 : wx8.cell? ⟨wc.heap.size + 1, 0, none⟩ = some (.bool (decide ((de).num < 0))) := (hb.cell (p := ⟨wc.heap.size + 1, 0, none⟩) hl_D).trans k_D_0
            replace k_D_1 : wx8.cell? ⟨wc.heap.size + 1, 1, none⟩ = some (.slice rv (nlen (de).num.natAbs) cv) := (hb.cell (p := ⟨wc.heap.size + 1, 1, none⟩) hl_D).trans k_D_1
            replace k_D_2 : wx8.cell? ⟨wc.heap.size + 1, 2, none⟩ = some (.slice rv2 (nlen (de).den) cv2) := (hb.cell (p := ⟨wc.heap.size + 1, 2, none⟩) hl_D).trans k_D_2
            replace f_D : ∀ o, wx8.frozen? ⟨wc.heap.size + 1, o, none⟩ = false := fun o => (hb.frozen (p := ⟨wc.heap.size + 1, o, none⟩) hl_D).trans (f_D o)
            replace HX_D := Lib.hid (HX_D.out.below hb)
            replace HN1 := Lib.hid (HN1.out.below hb)
            replace HN2 := Lib.hid (HN2.out.below hb)
            replace HD1 := Lib.hid (HD1.out.below hb)
            replace HD2 := Lib.hid (HD2.out.below hb)
            replace HB := Lib.hid (HB.out.trans (hb.mono hs0))
            replace hN : N ≤ wx8.heap.size := Nat.le_trans hN hb.size
            replace hs0 : w.heap.size ≤ wx8.heap.size := Nat.le_trans hs0 hb.size
            replace hl_N : wc.heap.size < wx8.heap.size := Nat.lt_of_lt_of_le hl_N hb.size
            replace hl_D : wc.heap.size + 1 < wx8.heap.size := Nat.lt_of_lt_of_le hl_D hb.size
            clear hb
            by_cases c12 : κ12 < 0
            · have c12d : decide (κ12 < 0) = true := by simpa using c12
              go_wp2_with fail
              refine calls_name fun W9 hW => ?_
              have HL_W9 := Lib.hid (show Below wx8.heap.size wx8 W9 by rw [← hW]; exact BlA)
              have hs_W9 : wx8.heap.size ≤ W9.heap.size := by rw [← hW]; (first | omega | (simp; done) | (simp; omega))
              have HK_W9 := Lib.hid (show Kp N wx8 W9 by rw [← hW]; exact KpA)
              replace k_N_0 : W9.cell? ⟨wc.heap.size, 0, none⟩ = some (.bool (decide ((nu).num < 0))) := (HL_W9.out.cell (p := ⟨wc.heap.size, 0, none⟩) hl_N).trans k_N_0
              replace k_N_1 : W9.cell? ⟨wc.heap.size, 1, none⟩ = some (.slice ru (nlen (nu).num.natAbs) cu) := (HL_W9.out.cell (p := ⟨wc.heap.size, 1, none⟩) hl_N).trans k_N_1
              replace k_N_2 : W9.cell? ⟨wc.heap.size, 2, none⟩ = some (.slice ru2 (nlen (nu).den) cu2) := (HL_W9.out.cell (p := ⟨wc.heap.size, 2, none⟩) hl_N).trans k_N_2
              replace f_N : ∀ o, W9.frozen? ⟨wc.heap.size, o, none⟩ = false := fun o => (HL_W9.out.frozen (p := ⟨wc.heap.size, o, none⟩) hl_N).trans (f_N o)
              replace HX_N := Lib.hid (show Bn W9 (wc.heap.size) by rw [← hW]; exact KpA)
              replace k_D_0 : W9.cell? ⟨wc.heap.size + 1, 0, none⟩ = some (.bool (decide ((de).num < 0))) := (HL_W9.out.cell (p := ⟨wc.heap.size + 1, 0, none⟩) hl_D).trans k_D_0
              replace k_D_1 : W9.cell? ⟨wc.heap.size + 1, 1, none⟩ = some (.slice rv (nlen (de).num.natAbs) cv) := (HL_W9.out.cell (p := ⟨wc.heap.size + 1, 1, none⟩) hl_D).trans k_D_1
              replace k_D_2 : W9.cell? ⟨wc.heap.size + 1, 2, none⟩ = some (.slice rv2 (nlen (de).den) cv2) := (HL_W9.out.cell (p := ⟨wc.heap.size + 1, 2, none⟩) hl_D).trans k_D_2
              replace f_D : ∀ o, W9.frozen? ⟨wc.heap.size + 1, o, none⟩ = false := fun o => (HL_W9.out.frozen (p := ⟨wc.heap.size + 1, o, none⟩) hl_D).trans (f_D o)
              replace HX_D := Lib.hid (show Bn W9 (wc.heap.size + 1) by rw [← hW]; exact KpA)
              replace HN1 := Lib.hid (HN1.out.keep HK_W9.out)
              replace HN2 := Lib.hid (HN2.out.keep HK_W9.out)
              replace HD1 := Lib.hid (HD1.out.keep HK_W9.out)
              replace HD2 := Lib.hid (HD2.out.keep HK_W9.out)
              replace HB := Lib.hid (show Below w.heap.size w W9 by rw [← hW]; exact BlA)
              replace hN : N ≤ W9.heap.size := by rw [← hW]; (first | omega | (simp; done) | (simp; omega))
              replace hs0 : w.heap.size ≤ W9.heap.size := by rw [← hW]; (first | omega | (simp; done) | (simp; omega))
              replace hl_N : wc.heap.size < W9.heap.size := by rw [← hW]; (first | omega | (simp; done) | (simp; omega))
              replace hl_D : wc.heap.size + 1 < W9.heap.size := by rw [← hW]; (first | omega | (simp; done) | (simp; omega))
              clear HL_W9
              clear hW HK_W9
              refine (against_any (N := N) 1 1 _ _ nu de p11 _ hN ⟨_, _, _, _, ⟨hl_N, HX_N.out, f_N, k_N_0, k_N_1, k_N_2⟩, HN1.out, HN2.out⟩ ⟨_, _, _, _, ⟨hl_D, HX_D.out, f_D, k_D_0, k_D_1, k_D_2⟩, HD1.out, HD2.out⟩ HZN.out HZD.out (by omega) (by omega) (by omega) (by omega) HP11.out HZ11.out κ11 HK11.out).mono ?_
              rintro e wx9 ⟨rfl, hb⟩
              have hs_wx9 : W9.heap.size ≤ wx9.heap.size := hb.size
              replace k_N_0 : wx9.cell? ⟨wc.heap.size, 0, none⟩ = some (.bool (decide ((nu).num < 0))) := (hb.cell (p := ⟨wc.heap.size, 0, none⟩) hl_N).trans k_N_0
              replace k_N_1 : wx9.cell? ⟨wc.heap.size, 1, none⟩ = some (.slice ru (nlen (nu).num.natAbs) cu) := (hb.cell (p := ⟨wc.heap.size, 1, none⟩) hl_N).trans k_N_1
              replace k_N_2 : wx9.cell? ⟨wc.heap.size, 2, none⟩ = some (.slice ru2 (nlen (nu).den) cu2) := (hb.cell (p := ⟨wc.heap.size, 2, none⟩) hl_N).trans k_N_2
              replace f_N : ∀ o, wx9.frozen? ⟨wc.heap.size, o, none⟩ = false := fun o => (hb.frozen (p := ⟨wc.heap.size, o, none⟩) hl_N).trans (f_N o)
              replace HX_N := Lib.hid (HX_N.out.below hb)
              replace k_D_0 : wx9.cell? ⟨wc.heap.size + 1, 0, none⟩ = some (.bool (decide ((de).num < 0))) := (hb.cell (p := ⟨wc.heap.size + 1, 0, none⟩) hl_D).trans k_D_0
              replace k_D_1 : wx9.cell? ⟨wc.heap.size + 1, 1, none⟩ = some (.slice rv (nlen (de).num.natAbs) cv) := (hb.cell (p := ⟨wc.heap.size + 1, 1, none⟩) hl_D).trans k_D_1
              replace k_D_2 : wx9.cell? ⟨wc.heap.size + 1, 2, none⟩ = some (.slice rv2 (nlen (de).den) cv2) := (hb.cell (p := ⟨wc.heap.size + 1, 2, none⟩) hl_D).trans k_D_2
              replace f_D : ∀ o, wx9.frozen? ⟨wc.heap.size + 1, o, none⟩ = false := fun o => (hb.frozen (p := ⟨wc.heap.size + 1, o, none⟩) hl_D).trans (f_D o)
              replace HX_D := Lib.hid (HX_D.out.below hb)
              replace HN1 := Lib.hid (HN1.out.below hb)
              replace HN2 := Lib.hid (HN2.out.below hb)
              replace HD1 := Lib.hid (HD1.out.below hb)
              replace HD2 := Lib.hid (HD2.out.below hb)
              replace HB := Lib.hid (HB.out.trans (hb.mono hs0))
              replace hN : N ≤ wx9.heap.size := Nat.le_trans hN hb.size
              replace hs0 : w.heap.size ≤ wx9.heap.size := Nat.le_trans hs0 hb.size
              replace hl_N : wc.heap.size < wx9.heap.size := Nat.lt_of_lt_of_le hl_N hb.size
              replace hl_D : wc.heap.size + 1 < wx9.heap.size := Nat.lt_of_lt_of_le hl_D hb.size
              clear hb
              by_cases c11 : κ11 < 0
              · have c11d : decide (κ11 < 0) = true := by simpa using c11
                go_wp2_with fail
                refine bodyPost_ret (v := .tuple #[.int .i64 (-2), .int .i64 0]) (by simp [results, Tryd.results12, go_sem]) rfl ⟨?_, HB.out⟩
                rw [show c = -2 by rw [← HCL.out]; unfold claC; (repeat' split) <;> first | rfl | (exfalso; omega)]; rfl
              · have c11d : decide (κ11 < 0) = false := by simpa using c11
                go_wp2_with fail
                refine bodyPost_ret (v := .tuple #[.int .i64 (2), .int .i64 0]) (by simp [results, Tryd.results12, go_sem]) rfl ⟨?_, HB.out⟩
                rw [show c = 2 by rw [← HCL.out]; unfold claC; (repeat' split) <;> first | rfl | (exfalso; omega)]; rfl
            · have c12d : decide (κ12 < 0) = false := by simpa using c12
              go_wp2_with fail
              refine calls_name fun W10 hW => ?_
              have HL_W10 := Lib.hid (show Below wx8.heap.size wx8 W10 by rw [← hW]; exact BlA)
              have hs_W10 : wx8.heap.size ≤ W10.heap.size := by rw [← hW]; (first | omega | (simp; done) | (simp; omega))
              have HK_W10 := Lib.hid (show Kp N wx8 W10 by rw [← hW]; exact KpA)
              replace k_N_0 : W10.cell? ⟨wc.heap.size, 0, none⟩ = some (.bool (decide ((nu).num < 0))) := (HL_W10.out.cell (p := ⟨wc.heap.size, 0, none⟩) hl_N).trans k_N_0
              replace k_N_1 : W10.cell? ⟨wc.heap.size, 1, none⟩ = some (.slice ru (nlen (nu).num.natAbs) cu) := (HL_W10.out.cell (p := ⟨wc.heap.size, 1, none⟩) hl_N).trans k_N_1
              replace k_N_2 : W10.cell? ⟨wc.heap.size, 2, none⟩ = some (.slice ru2 (nlen (nu).den) cu2) := (HL_W10.out.cell (p := ⟨wc.heap.size, 2, none⟩) hl_N).trans k_N_2
              replace f_N : ∀ o, W10.frozen? ⟨wc.heap.size, o, none⟩ = false := fun o => (HL_W10.out.frozen (p := ⟨wc.heap.size, o, none⟩) hl_N).trans (f_N o)
              replace HX_N := Lib.hid (show Bn W10 (wc.heap.size) by rw [← hW]; exact KpA)
              replace k_D_0 : W10.cell? ⟨wc.heap.size + 1, 0, none⟩ = some (.bool (decide ((de).num < 0))) := (HL_W10.out.cell (p := ⟨wc.heap.size + 1, 0, none⟩) hl_D).trans k_D_0
              replace k_D_1 : W10.cell? ⟨wc.heap.size + 1, 1, none⟩ = some (.slice rv (nlen (de).num.natAbs) cv) := (HL_W10.out.cell (p := ⟨wc.heap.size + 1, 1, none⟩) hl_D).trans k_D_1
              replace k_D_2 : W10.cell? ⟨wc.heap.size + 1, 2, none⟩ = some (.slice rv2 (nlen (de).den) cv2) := (HL_W10.out.cell (p := ⟨wc.heap.size + 1, 2, none⟩) hl_D).trans k_D_2
              replace f_D : ∀ o, W10.frozen? ⟨wc.heap.size + 1, o, none⟩ = false := fun o => (HL_W10.out.frozen (p := ⟨wc.heap.size + 1, o, none⟩) hl_D).trans (f_D o)
              replace HX_D := Lib.hid (show Bn W10 (wc.heap.size + 1) by rw [← hW]; exact KpA)
              replace HN1 := Lib.hid (HN1.out.keep HK_W10.out)
              replace HN2 := Lib.hid (HN2.out.keep HK_W10.out)
              replace HD1 := Lib.hid (HD1.out.keep HK_W10.out)
              replace HD2 := Lib.hid (HD2.out.keep HK_W10.out)
              replace HB := Lib.hid (show Below w.heap.size w W10 by rw [← hW]; exact BlA)
              replace hN : N ≤ W10.heap.size := by rw [← hW]; (first | omega | (simp; done) | (simp; omega))
              replace hs0 : w.heap.size ≤ W10.heap.size := by rw [← hW]; (first | omega | (simp; done) | (simp; omega))
              replace hl_N : wc.heap.size < W10.heap.size := by rw [← hW]; (first | omega | (simp; done) | (simp; omega))
              replace hl_D : wc.heap.size + 1 < W10.heap.size := by rw [← hW]; (first | omega | (simp; done) | (simp; omega))
              clear HL_W10
              clear hW HK_W10
              refine (against_any (N := N) 1 1 _ _ nu de p11 _ hN ⟨_, _, _, _, ⟨hl_N, HX_N.out, f_N, k_N_0, k_N_1, k_N_2⟩, HN1.out, HN2.out⟩ ⟨_, _, _, _, ⟨hl_D, HX_D.out, f_D, k_D_0, k_D_1, k_D_2⟩, HD1.out, HD2.out⟩ HZN.out HZD.out (by omega) (by omega) (by omega) (by omega) HP11.out HZ11.out κ11 HK11.out).mono ?_
              rintro e wx10 ⟨rfl, hb⟩
              have hs_wx10 : W10.heap.size ≤ wx10.heap.size := hb.size
              replace k_N_0 : wx10.cell? ⟨wc.heap.size, 0, none⟩ = some (.bool (decide ((nu).num < 0))) := (hb.cell (p := ⟨wc.heap.size, 0, none⟩) hl_N).trans k_N_0
              replace k_N_1 : wx10.cell? ⟨wc.heap.size, 1, none⟩ = some (.slice ru (nlen (nu).num.natAbs) cu) := (hb.cell (p := ⟨wc.heap.size, 1, none⟩) hl_N).trans k_N_1
              replace k_N_2 : wx10.cell? ⟨wc.heap.size, 2, none⟩ = some (.slice ru2 (nlen (nu).den) cu2) := (hb.cell (p := ⟨wc.heap.size, 2, none⟩) hl_N).trans k_N_2
              replace f_N : ∀ o, wx10.frozen? ⟨wc.heap.size, o, none⟩ = false := fun o => (hb.frozen (p := ⟨wc.heap.size, o, none⟩) hl_N).trans (f_N o)
              replace HX_N := Lib.hid (HX_N.out.below hb)
              replace k_D_0 : wx10.cell? ⟨wc.heap.size + 1, 0, none⟩ = some (.bool (decide ((de).num < 0))) := (hb.cell (p := ⟨wc.heap.size + 1, 0, none⟩) hl_D).trans k_D_0
              replace k_D_1 : wx10.cell? ⟨wc.heap.size + 1, 1, none⟩ = some (.slice rv (nlen (de).num.natAbs) cv) := (hb.cell (p := ⟨wc.heap.size + 1, 1, none⟩) hl_D).trans k_D_1
              replace k_D_2 : wx10.cell? ⟨wc.heap.size + 1, 2, none⟩ = some (.slice rv2 (nlen (de).den) cv2) := (hb.cell (p := ⟨wc.heap.size + 1, 2, none⟩) hl_D).trans k_D_2
              replace f_D : ∀ o, wx10.frozen? ⟨wc.heap.size + 1, o, none⟩ = false := fun o => (hb.frozen (p := ⟨wc.heap.size + 1, o, none⟩) hl_D).trans (f_D o)
              replace HX_D := Lib.hid (HX_D.out.below hb)
              replace HN1 := Lib.hid (HN1.out.below hb)
              replace HN2 := Lib.hid (HN2.out.below hb)
              replace HD1 := Lib.hid (HD1.out.below hb)
              replace HD2 := Lib.hid (HD2.out.below hb)
              replace HB := Lib.hid (HB.out.trans (hb.mono hs0))
              replace hN : N ≤ wx10.heap.size := Nat.le_trans hN hb.size
              replace hs0 : w.heap.size ≤ wx10.heap.size := Nat.le_trans hs0 hb.size
              replace hl_N : wc.heap.size < wx10.heap.size := Nat.lt_of_lt_of_le hl_N hb.size
              replace hl_D : wc.heap.size + 1 < wx10.heap.size := Nat.lt_of_lt_of_le hl_D hb.size
              clear hb
              by_cases c11 : κ11 < 0
              · have c11d : decide (κ11 < 0) = true := by simpa using c11
                go_wp2_with fail
                refine bodyPost_ret (v := .tuple #[.int .i64 (-1), .int .i64 0]) (by simp [results, Tryd.results12, go_sem]) rfl ⟨?_, HB.out⟩
                rw [show c = -1 by rw [← HCL.out]; unfold claC; (repeat' split) <;> first | rfl | (exfalso; omega)]; rfl
              · have c11d : decide (κ11 < 0) = false := by simpa using c11
                go_wp2_with fail
                refine bodyPost_ret (v := .tuple #[.int .i64 (1), .int .i64 0]) (by simp [results, Tryd.results12, go_sem]) rfl ⟨?_, HB.out⟩
                rw [show c = 1 by rw [← HCL.out]; unfold claC; (repeat' split) <;> first | rfl | (exfalso; omega)]; rfl
      · have c23d : decide (0 ≤ κ23) = false := by simpa using c23
        go_wp2_with fail
        refine calls_name fun W11 hW => ?_
        have HL_W11 := Lib.hid (show Below wx4.heap.size wx4 W11 by rw [← hW]; exact BlA)
        have hs_W11 : wx4.heap.size ≤ W11.heap.size := by rw [← hW]; (first | omega | (simp; done) | (simp; omega))
        have HK_W11 := Lib.hid (show Kp N wx4 W11 by rw [← hW]; exact KpA)
        replace k_N_0 : W11.cell? ⟨wc.heap.size, 0, none⟩ = some (.bool (decide ((nu).num < 0))) := (HL_W11.out.cell (p := ⟨wc.heap.size, 0, none⟩) hl_N).trans k_N_0
        replace k_N_1 : W11.cell? ⟨wc.heap.size, 1, none⟩ = some (.slice ru (nlen (nu).num.natAbs) cu) := (HL_W11.out.cell (p := ⟨wc.heap.size, 1, none⟩) hl_N).trans k_N_1
        replace k_N_2 : W11.cell? ⟨wc.heap.size, 2, none⟩ = some (.slice ru2 (nlen (nu).den) cu2) := (HL_W11.out.cell (p := ⟨wc.heap.size, 2, none⟩) hl_N).trans k_N_2
        replace f_N : ∀ o, W11.frozen? ⟨wc.heap.size, o, none⟩ = false := fun o => (HL_W11.out.frozen (p := ⟨wc.heap.size, o, none⟩) hl_N).trans (f_N o)
        replace HX_N := Lib.hid (show Bn W11 (wc.heap.size) by rw [← hW]; exact KpA)
        replace k_D_0 : W11.cell? ⟨wc.heap.size + 1, 0, none⟩ = some (.bool (decide ((de).num < 0))) := (HL_W11.out.cell (p := ⟨wc.heap.size + 1, 0, none⟩) hl_D).trans k_D_0
        replace k_D_1 : W11.cell? ⟨wc.heap.size + 1, 1, none⟩ = some (.slice rv (nlen (de).num.natAbs) cv) := (HL_W11.out.cell (p := ⟨wc.heap.size + 1, 1, none⟩) hl_D).trans k_D_1
        replace k_D_2 : W11.cell? ⟨wc.heap.size + 1, 2, none⟩ = some (.slice rv2 (nlen (de).den) cv2) := (HL_W11.out.cell (p := ⟨wc.heap.size + 1, 2, none⟩) hl_D).trans k_D_2
        replace f_D : ∀ o, W11.frozen? ⟨wc.heap.size + 1, o, none⟩ = false := fun o => (HL_W11.out.frozen (p := ⟨wc.heap.size + 1, o, none⟩) hl_D).trans (f_D o)
        replace HX_D := Lib.hid (show Bn W11 (wc.heap.size + 1) by rw [← hW]; exact KpA)
        replace HN1 := Lib.hid (HN1.out.keep HK_W11.out)
        replace HN2 := Lib.hid (HN2.out.keep HK_W11.out)
        replace HD1 := Lib.hid (HD1.out.keep HK_W11.out)
        replace HD2 := Lib.hid (HD2.out.keep HK_W11.out)
        replace HB := Lib.hid (show Below w.heap.size w W11 by rw [← hW]; exact BlA)
        replace hN : N ≤ W11.heap.size := by rw [← hW]; (first | omega | (simp; done) | (simp; omega))
        replace hs0 : w.heap.size ≤ W11.heap.size := by rw [← hW]; (first | omega | (simp; done) | (simp; omega))
        replace hl_N : wc.heap.size < W11.heap.size := by rw [← hW]; (first | omega | (simp; done) | (simp; omega))
        replace hl_D : wc.heap.size + 1 < W11.heap.size := by rw [← hW]; (first | omega | (simp; done) | (simp; omega))
        clear HL_W11
        clear hW HK_W11
        refine (against_any (N := N) 2 1 _ _ nu de p21 _ hN ⟨_, _, _, _, ⟨hl_N, HX_N.out, f_N, k_N_0, k_N_1, k_N_2⟩, HN1.out, HN2.out⟩ ⟨_, _, _, _, ⟨hl_D, HX_D.out, f_D, k_D_0, k_D_1, k_D_2⟩, HD1.out, HD2.out⟩ HZN.out HZD.out (by omega) (by omega) (by omega) (by omega) HP21.out HZ21.out κ21 HK21.out).mono ?_
        rintro e wx11 ⟨rfl, hb⟩
        have hs_wx11 : W11.heap.size ≤ wx11.heap.size := hb.size
        replace k_N_0 : wx11.cell? ⟨wc.heap.size, 0, none⟩ = some (.bool (decide ((nu).num < 0))) := (hb.cell (p := ⟨wc.heap.size, 0, none⟩) hl_N).trans k_N_0
        replace k_N_1 : wx11.cell? ⟨wc.heap.size, 1, none⟩ = some (.slice ru (nlen (nu).num.natAbs) cu) := (hb.cell (p := ⟨wc.heap.size, 1, none⟩) hl_N).trans k_N_1
        replace k_N_2 : wx11.cell? ⟨wc.heap.size, 2, none⟩ = some (.slice ru2 (nlen (nu).den) cu2) := (hb.cell (p := ⟨wc.heap.size, 2, none⟩) hl_N).trans k_N_2
        replace f_N : ∀ o, wx11.frozen? ⟨wc.heap.size, o, none⟩ = false := fun o => (hb.frozen (p := ⟨wc.heap.size, o, none⟩) hl_N).trans (f_N o)
        replace HX_N := Lib.hid (HX_N.out.below hb)
        replace k_D_0 : wx11.cell? ⟨wc.heap.size + 1, 0, none⟩ = some (.bool (decide ((de).num < 0))) := (hb.cell (p := ⟨wc.heap.size + 1, 0, none⟩) hl_D).trans k_D_0
        replace k_D_1 : wx11.cell? ⟨wc.heap.size + 1, 1, none⟩ = some (.slice rv (nlen (de).num.natAbs) cv) := (hb.cell (p := ⟨wc.heap.size + 1, 1, none⟩) hl_D).trans k_D_1
        replace k_D_2 : wx11.cell? ⟨wc.heap.size + 1, 2, none⟩ = some (.slice rv2 (nlen (de).den) cv2) := (hb.cell (p := ⟨wc.heap.size + 1, 2, none⟩) hl_D).trans k_D_2
        replace f_D : ∀ o, wx11.frozen? ⟨wc.heap.size + 1, o, none⟩ = false := fun o => (hb.frozen (p := ⟨wc.heap.size + 1, o, none⟩) hl_D).trans (f_D o)
        replace HX_D := Lib.hid (HX_D.out.below hb)
        replace HN1 := Lib.hid (HN1.out.below hb)
        replace HN2 := Lib.hid (HN2.out.below hb)
        replace HD1 := Lib.hid (HD1.out.below hb)
        replace HD2 := Lib.hid (HD2.out.below hb)
        replace HB := Lib.hid (HB.out.trans (hb.mono hs0))
        replace hN : N ≤ wx11.heap.size := Nat.le_trans hN hb.size
        replace hs0 : w.heap.size ≤ wx11.heap.size := Nat.le_trans hs0 hb.size
        replace hl_N : wc.heap.size < wx11.heap.size := Nat.lt_of_lt_of_le hl_N hb.size
        replace hl_D : wc.heap.size + 1 < wx11.heap.size := Nat.lt_of_lt_of_le hl_D hb.size
        clear hb
        by_cases c21 : 0 < κ21
        · have c21d : decide (0 < κ21) = true := by simpa using c21
          go_wp2_with fail
          refine calls_name fun W12 hW => ?_
          have HL_W12 := Lib.hid (show Below wx11.heap.size wx11 W12 by rw [← hW]; exact BlA)
          have hs_W12 : wx11.heap.size ≤ W12.heap.size := by rw [← hW]; (first | omega | (simp; done) | (simp; omega))
          have HK_W12 := Lib.hid (show Kp N wx11 W12 by rw [← hW]; exact KpA)
          replace k_N_0 : W12.cell? ⟨wc.heap.size, 0, none⟩ = some (.bool (decide ((nu).num < 0))) := (HL_W12.out.cell (p := ⟨wc.heap.size, 0, none⟩) hl_N).trans k_N_0
          replace k_N_1 : W12.cell? ⟨wc.heap.size, 1, none⟩ = some (.slice ru (nlen (nu).num.natAbs) cu) := (HL_W12.out.cell (p := ⟨wc.heap.size, 1, none⟩) hl_N).trans k_N_1
          replace k_N_2 : W12.cell? ⟨wc.heap.size, 2, none⟩ = some (.slice ru2 (nlen (nu).den) cu2) := (HL_W12.out.cell (p := ⟨wc.heap.size, 2, none⟩) hl_N).trans k_N_2
          replace f_N : ∀ o, W12.frozen? ⟨wc.heap.size, o, none⟩ = false := fun o => (HL_W12.out.frozen (p := ⟨wc.heap.size, o, none⟩) hl_N).trans (f_N o)
          replace HX_N := Lib.hid (show Bn W12 (wc.heap.size) by rw [← hW]; exact KpA)
          replace k_D_0 : W12.cell? ⟨wc.heap.size + 1, 0, none⟩ = some (.bool (decide ((de).num < 0))) := (HL_W12.out.cell (p := ⟨wc.heap.size + 1, 0, none⟩) hl_D).trans k_D_0
          replace k_D_1 : W12.cell? ⟨wc.heap.size + 1, 1, none⟩ = some (.slice rv (nlen (de).num.natAbs) cv) := (HL_W12.out.cell (p := ⟨wc.heap.size + 1, 1, none⟩) hl_D).trans k_D_1
          replace k_D_2 : W12.cell? ⟨wc.heap.size + 1, 2, none⟩ = some (.slice rv2 (nlen (de).den) cv2) := (HL_W12.out.cell (p := ⟨wc.heap.size + 1, 2, none⟩) hl_D).trans k_D_2
          replace f_D : ∀ o, W12.frozen? ⟨wc.heap.size + 1, o, none⟩ = false := fun o => (HL_W12.out.frozen (p := ⟨wc.heap.size + 1, o, none⟩) hl_D).trans (f_D o)
          replace HX_D := Lib.hid (show Bn W12 (wc.heap.size + 1) by rw [← hW]; exact KpA)
          replace HN1 := Lib.hid (HN1.out.keep HK_W12.out)
          replace HN2 := Lib.hid (HN2.out.keep HK_W12.out)
          replace HD1 := Lib.hid (HD1.out.keep HK_W12.out)
          replace HD2 := Lib.hid (HD2.out.keep HK_W12.out)
          replace HB := Lib.hid (show Below w.heap.size w W12 by rw [← hW]; exact BlA)
          replace hN : N ≤ W12.heap.size := by rw [← hW]; (first | omega | (simp; done) | (simp; omega))
          replace hs0 : w.heap.size ≤ W12.heap.size := by rw [← hW]; (first | omega | (simp; done) | (simp; omega))
          replace hl_N : wc.heap.size < W12.heap.size := by rw [← hW]; (first | omega | (simp; done) | (simp; omega))
          replace hl_D : wc.heap.size + 1 < W12.heap.size := by rw [← hW]; (first | omega | (simp; done) | (simp; omega))
          clear HL_W12
          clear hW HK_W12
          refine (against_any (N := N) 1 1 _ _ nu de p11 _ hN ⟨_, _, _, _, ⟨hl_N, HX_N.out, f_N, k_N_0, k_N_1, k_N_2⟩, HN1.out, HN2.out⟩ ⟨_, _, _, _, ⟨hl_D, HX_D.out, f_D, k_D_0, k_D_1, k_D_2⟩, HD1.out, HD2.out⟩ HZN.out HZD.out (by omega) (by omega) (by omega) (by omega) HP11.out HZ11.out κ11 HK11.out).mono ?_
          rintro e wx12 ⟨rfl, hb⟩
          have hs_wx12 : W12.heap.size ≤ wx12.heap.size := hb.size
          replace k_N_0 : wx12.cell? ⟨wc.heap.size, 0, none⟩ = some (.bool (decide ((nu).num < 0))) := (hb.cell (p := ⟨wc.heap.size, 0, none⟩) hl_N).trans k_N_0
          replace k_N_1 : wx12.cell? ⟨wc.heap.size, 1, none⟩ = some (.slice ru (nlen (nu).num.natAbs) cu) := (hb.cell (p := ⟨wc.heap.size, 1, none⟩) hl_N).trans k_N_1
          replace k_N_2 : wx12.cell? ⟨wc.heap.size, 2, none⟩ = some (.slice ru2 (nlen (nu).den) cu2) := (hb.cell (p := ⟨wc.heap.size, 2, none⟩) hl_N).trans k_N_2
          replace f_N : ∀ o, wx12.frozen? ⟨wc.heap.size, o, none⟩ = false := fun o => (hb.frozen (p := ⟨wc.heap.size, o, none⟩) hl_N).trans (f_N o)
          replace HX_N := Lib.hid (HX_N.out.below hb)
          replace k_D_0 : wx12.cell? ⟨wc.heap.size + 1, 0, none⟩ = some (.bool (decide ((de).num < 0))) := (hb.cell (p := ⟨wc.heap.size + 1, 0, none⟩) hl_D).trans k_D_0
          replace k_D_1 : wx12.cell? ⟨wc.heap.size + 1, 1, none⟩ = some (.slice rv (nlen (de).num.natAbs) cv) := (hb.cell (p := ⟨wc.heap.size + 1, 1, none⟩) hl_D).trans k_D_1
          replace k_D_2 : wx12.cell? ⟨wc.heap.size + 1, 2, none⟩ = some (.slice rv2 (nlen (de).den) cv2) := (hb.cell (p := ⟨wc.heap.size + 1, 2, none⟩) hl_D).trans k_D_2
          replace f_D : ∀ o, wx12.frozen? ⟨wc.heap.size + 1, o, none⟩ = false := fun o => (hb.frozen (p := ⟨wc.heap.size + 1, o, none⟩) hl_D).trans (f_D o)
          replace HX_D := Lib.hid (HX_D.out.below hb)
          replace HN1 := Lib.hid (HN1.out.below hb)
          replace HN2 := Lib.hid (HN2.out.below hb)
          replace HD1 := Lib.hid (HD1.out.below hb)
          replace HD2 := Lib.hid (HD2.out.below hb)
          replace HB := Lib.hid (HB.out.trans (hb.mono hs0))
          replace hN : N ≤ wx12.heap.size := Nat.le_trans hN hb.size
          replace hs0 : w.heap.size ≤ wx12.heap.size := Nat.le_trans hs0 hb.size
          replace hl_N : wc.heap.size < wx12.heap.size := Nat.lt_of_lt_of_le hl_N hb.size
          replace hl_D : wc.heap.size + 1 < wx12.heap.size := Nat.lt_of_lt_of_le hl_D hb.size
          clear hb
          by_cases c11 : κ11 < 0
          · have c11d : decide (κ11 < 0) = true := by simpa using c11
            go_wp2_with fail
            refine bodyPost_ret (v := .tuple #[.int .i64 (-2), .int .i64 0]) (by simp [results, Tryd.results12, go_sem]) rfl ⟨?_, HB.out⟩
            rw [show c = -2 by rw [← HCL.out]; unfold claC; (repeat' split) <;> first | rfl | (exfalso; omega)]; rfl
          · have c11d : decide (κ11 < 0) = false := by simpa using c11
            go_wp2_with fail
            refine bodyPost_ret (v := .tuple #[.int .i64 (2), .int .i64 0]) (by simp [results, Tryd.results12, go_sem]) rfl ⟨?_, HB.out⟩
            rw [show c = 2 by rw [← HCL.out]; unfold claC; (repeat' split) <;> first | rfl | (exfalso; omega)]; rfl
        · have c21d : decide (0 < κ21) = false := by simpa using c21
          go_wp2_with fail
          refine calls_name fun W13 hW => ?_
          have HL_W13 := Lib.hid (show Below wx11.heap.size wx11 W13 by rw [← hW]; exact BlA)
          have hs_W13 : wx11.heap.size ≤ W13.heap.size := by rw [← hW]; (first | omega | (simp; done) | (simp; omega))
          have HK_W13 := Lib.hid (show Kp N wx11 W13 by rw [← hW]; exact KpA)
          replace k_N_0 : W13.cell? ⟨wc.heap.size, 0, none⟩ = some (.bool (decide ((nu).num < 0))) := (HL_W13.out.cell (p := ⟨wc.heap.size, 0, none⟩) hl_N).trans k_N_0
          replace k_N_1 : W13.cell? ⟨wc.heap.size, 1, none⟩ = some (.slice ru (nlen (nu).num.natAbs) cu) := (HL_W13.out.cell (p := ⟨wc.heap.size, 1, none⟩) hl_N).trans k_N_1
          replace k_N_2 : W13.cell? ⟨wc.heap.size, 2, none⟩ = some (.slice ru2 (nlen (nu).den) cu2) := (HL_W13.out.cell (p := ⟨wc.heap.size, 2, none⟩) hl_N).trans k_N_2
          replace f_N : ∀ o, W13.frozen? ⟨wc.heap.size, o, none⟩ = false := fun o => (HL_W13.out.frozen (p := ⟨wc.heap.size, o, none⟩) hl_N).trans (f_N o)
          replace HX_N := Lib.hid (show Bn W13 (wc.heap.size) by rw [← hW]; exact KpA)
          replace k_D_0 : W13.cell? ⟨wc.heap.size + 1, 0, none⟩ = some (.bool (decide ((de).num < 0))) := (HL_W13.out.cell (p := ⟨wc.heap.size + 1, 0, none⟩) hl_D).trans k_D_0
          replace k_D_1 : W13.cell? ⟨wc.heap.size + 1, 1, none⟩ = some (.slice rv (nlen (de).num.natAbs) cv) := (HL_W13.out.cell (p := ⟨wc.heap.size + 1, 1, none⟩) hl_D).trans k_D_1
          replace k_D_2 : W13.cell? ⟨wc.heap.size + 1, 2, none⟩ = some (.slice rv2 (nlen (de).den) cv2) := (HL_W13.out.cell (p := ⟨wc.heap.size + 1, 2, none⟩) hl_D).trans k_D_2
          replace f_D : ∀ o, W13.frozen? ⟨wc.heap.size + 1, o, none⟩ = false := fun o => (HL_W13.out.frozen (p := ⟨wc.heap.size + 1, o, none⟩) hl_D).trans (f_D o)
          replace HX_D := Lib.hid (show Bn W13 (wc.heap.size + 1) by rw [← hW]; exact KpA)
          replace HN1 := Lib.hid (HN1.out.keep HK_W13.out)
          replace HN2 := Lib.hid (HN2.out.keep HK_W13.out)
          replace HD1 := Lib.hid (HD1.out.keep HK_W13.out)
          replace HD2 := Lib.hid (HD2.out.keep HK_W13.out)
          replace HB := Lib.hid (show Below w.heap.size w W13 by rw [← hW]; exact BlA)
          replace hN : N ≤ W13.heap.size := by rw [← hW]; (first | omega | (simp; done) | (simp; omega))
          replace hs0 : w.heap.size ≤ W13.heap.size := by rw [← hW]; (first | omega | (simp; done) | (simp; omega))
          replace hl_N : wc.heap.size < W13.heap.size := by rw [← hW]; (first | omega | (simp; done) | (simp; omega))
          replace hl_D : wc.heap.size + 1 < W13.heap.size := by rw [← hW]; (first | omega | (simp; done) | (simp; omega))
          clear HL_W13
          clear hW HK_W13
          refine (against_any (N := N) 1 2 _ _ nu de p12 _ hN ⟨_, _, _, _, ⟨hl_N, HX_N.out, f_N, k_N_0, k_N_1, k_N_2⟩, HN1.out, HN2.out⟩ ⟨_, _, _, _, ⟨hl_D, HX_D.out, f_D, k_D_0, k_D_1, k_D_2⟩, HD1.out, HD2.out⟩ HZN.out HZD.out (by omega) (by omega) (by omega) (by omega) HP12.out HZ12.out κ12 HK12.out).mono ?_
          rintro e wx13 ⟨rfl, hb⟩
          have hs_wx13 : W13.heap.size ≤ wx13.heap.size := hb.size
          replace k_N_0 : wx13.cell? ⟨wc.heap.size, 0, none⟩ = some (.bool (decide ((nu).num < 0))) := (hb.cell (p := ⟨wc.heap.size, 0, none⟩) hl_N).trans k_N_0
          replace k_N_1 : wx13.cell? ⟨wc.heap.size, 1, none⟩ = some (.slice ru (nlen (nu).num.natAbs) cu) := (hb.cell (p := ⟨wc.heap.size, 1, none⟩) hl_N).trans k_N_1
          replace k_N_2 : wx13.cell? ⟨wc.heap.size, 2, none⟩ = some (.slice ru2 (nlen (nu).den) cu2) := (hb.cell (p := ⟨wc.heap.size, 2, none⟩) hl_N).trans k_N_2
          replace f_N : ∀ o, wx13.frozen? ⟨wc.heap.size, o, none⟩ = false := fun o => (hb.frozen (p := ⟨wc.heap.size, o, none⟩) hl_N).trans (f_N o)
          replace HX_N := Lib.hid (HX_N.out.below hb)
          replace k_D_0 : wx13.cell? ⟨wc.heap.size + 1, 0, none⟩ = some (.bool (decide ((de).num < 0))) := (hb.cell (p := ⟨wc.heap.size + 1, 0, none⟩) hl_D).trans k_D_0
          replace k_D_1 : wx13.cell? ⟨wc.heap.size + 1, 1, none⟩ = some (.slice rv (nlen (de).num.natAbs) cv) := (hb.cell (p := ⟨wc.heap.size + 1, 1, none⟩) hl_D).trans k_D_1
          replace k_D_2 : wx13.cell? ⟨wc.heap.size + 1, 2, none⟩ = some (.slice rv2 (nlen (de).den) cv2) := (hb.cell (p := ⟨wc.heap.size + 1, 2, none⟩) hl_D).trans k_D_2
          replace f_D : ∀ o, wx13.frozen? ⟨wc.heap.size + 1, o, none⟩ = false := fun o => (hb.frozen (p := ⟨wc.heap.size + 1, o, none⟩) hl_D).trans (f_D o)
          replace HX_D := Lib.hid (HX_D.out.below hb)
          replace HN1 := Lib.hid (HN1.out.below hb)
          replace HN2 := Lib.hid (HN2.out.below hb)
          replace HD1 := Lib.hid (HD1.out.below hb)
          replace HD2 := Lib.hid (HD2.out.below hb)
          replace HB := Lib.hid (HB.out.trans (hb.mono hs0))
          replace hN : N ≤ wx13.heap.size := Nat.le_trans hN hb.size
          replace hs0 : w.heap.size ≤ wx13.heap.size := Nat.le_trans hs0 hb.size
          replace hl_N : wc.heap.size < wx13.heap.size := Nat.lt_of_lt_of_le hl_N hb.size
          replace hl_D : wc.heap.size + 1 < wx13.heap.size := Nat.lt_of_lt_of_le hl_D hb.size
          clear hb
          by_cases c12 : κ12 < 0
          · have c12d : decide (κ12 < 0) = true := by simpa using c12
            go_wp2_with fail
            refine calls_name fun W14 hW => ?_
            have HL_W14 := Lib.hid (show Below wx13.heap.size wx13 W14 by rw [← hW]; exact BlA)
            have hs_W14 : wx13.heap.size ≤ W14.heap.size := by rw [← hW]; (first | omega | (simp; done) | (simp; omega))
            have HK_W14 := Lib.hid (show Kp N wx13 W14 by rw [← hW]; exact KpA)
            replace k_N_0 : W14.cell? ⟨wc.heap.size, 0, none⟩ = some (.bool (decide ((nu).num < 0))) := (HL_W14.out.cell (p := ⟨wc.heap.size, 0, none⟩) hl_N).trans k_N_0
            replace k_N_1 : W14.cell? ⟨wc.heap.size, 1, none⟩ = some (.slice ru (nlen (nu).num.natAbs) cu) := (HL_W14.out.cell (p := ⟨wc.heap.size, 1, none⟩) hl_N).trans k_N_1
            replace k_N_2 : W14.cell? ⟨wc.heap.size, 2, none⟩ = some (.slice ru2 (nlen (nu).den) cu2) := (HL_W14.out.cell (p := ⟨wc.heap.size, 2, none⟩) hl_N).trans k_N_2
            replace f_N : ∀ o, W14.frozen? ⟨wc.heap.size, o, none⟩ = false := fun o => (HL_W14.out.frozen (p := ⟨wc.heap.size, o, none⟩) hl_N).trans (f_N o)
            replace HX_N := Lib.hid (show Bn W14 (wc.heap.size) by rw [← hW]; exact KpA)
            replace k_D_0 : W14.cell? ⟨wc.heap.size + 1, 0, none⟩ = some (.bool (decide ((de).num < 0))) := (HL_W14.out.cell (p := ⟨wc.heap.size + 1, 0, none⟩) hl_D).trans k_D_0
            replace k_D_1 : W14.cell? ⟨wc.heap.size + 1, 1, none⟩ = some (.slice rv (nlen (de).num.natAbs) cv) := (HL_W14.out.cell (p := ⟨wc.heap.size + 1, 1, none⟩) hl_D).trans k_D_1
            replace k_D_2 : W14.cell? ⟨wc.heap.size + 1, 2, none⟩ = some (.slice rv2 (nlen (de).den) cv2) := (HL_W14.out.cell (p := ⟨wc.heap.size + 1, 2, none⟩) hl_D).trans k_D_2
            replace f_D : ∀ o, W14.frozen? ⟨wc.heap.size + 1, o, none⟩ = false := fun o => (HL_W14.out.frozen (p := ⟨wc.heap.size + 1, o, none⟩) hl_D).trans (f_D o)
            replace HX_D := Lib.hid (show Bn W14 (wc.heap.size + 1) by rw [← hW]; exact KpA)
            replace HN1 := Lib.hid (HN1.out.keep HK_W14.out)
            replace HN2 := Lib.hid (HN2.out.keep HK_W14.out)
            replace HD1 := Lib.hid (HD1.out.keep HK_W14.out)
            replace HD2 := Lib.hid (HD2.out.keep HK_W14.out)
            replace HB := Lib.hid (show Below w.heap.size w W14 by rw [← hW]; exact BlA)
            replace hN : N ≤ W14.heap.size := by rw [← hW]; (first | omega | (simp; done) | (simp; omega))
            replace hs0 : w.heap.size ≤ W14.heap.size := by rw [← hW]; (first | omega | (simp; done) | (simp; omega))
            replace hl_N : wc.heap.size < W14.heap.size := by rw [← hW]; (first | omega | (simp; done) | (simp; omega))
            replace hl_D : wc.heap.size + 1 < W14.heap.size := by rw [← hW]; (first | omega | (simp; done) | (simp; omega))
            clear HL_W14
            clear hW HK_W14
            refine (against_any (N := N) 1 1 _ _ nu de p11 _ hN ⟨_, _, _, _, ⟨hl_N, HX_N.out, f_N, k_N_0, k_N_1, k_N_2⟩, HN1.out, HN2.out⟩ ⟨_, _, _, _, ⟨hl_D, HX_D.out, f_D, k_D_0, k_D_1, k_D_2⟩, HD1.out, HD2.out⟩ HZN.out HZD.out (by omega) (by omega) (by omega) (by omega) HP11.out HZ11.out κ11 HK11.out).mono ?_
            rintro e wx14 ⟨rfl, hb⟩
            have hs_wx14 : W14.heap.size ≤ wx14.heap.size := hb.size
            replace k_N_0 : wx14.cell? ⟨wc.heap.size, 0, none⟩ = some (.bool (decide ((nu).num < 0))) := (hb.cell (p := ⟨wc.heap.size, 0, none⟩) hl_N).trans k_N_0
            replace k_N_1 : wx14.cell? ⟨wc.heap.size, 1, none⟩ = some (.slice ru (nlen (nu).num.natAbs) cu) := (hb.cell (p := ⟨wc.heap.size, 1, none⟩) hl_N).trans k_N_1
            replace k_N_2 : wx14.cell? ⟨wc.heap.size, 2, none⟩ = some (.slice ru2 (nlen (nu).den) cu2) := (hb.cell (p := ⟨wc.heap.size, 2, none⟩) hl_N).trans k_N_2
            replace f_N : ∀ o, wx14.frozen? ⟨wc.heap.size, o, none⟩ = false := fun o => (hb.frozen (p := ⟨wc.heap.size, o, none⟩) hl_N).trans (f_N o)
            replace HX_N := Lib.hid (HX_N.out.below hb)
            replace k_D_0 : wx14.cell? ⟨wc.heap.size + 1, 0, none⟩ = some (.bool (decide ((de).num < 0))) := (hb.cell (p := ⟨wc.heap.size + 1, 0, none⟩) hl_D).trans k_D_0
            replace k_D_1 : wx14.cell? ⟨wc.heap.size + 1, 1, none⟩ = some (.slice rv (nlen (de).num.natAbs) cv) := (hb.cell (p := ⟨wc.heap.size + 1, 1, none⟩) hl_D).trans k_D_1
            replace k_D_2 : wx14.cell? ⟨wc.heap.size + 1, 2, none⟩ = some (.slice rv2 (nlen (de).den) cv2) := (hb.cell (p := ⟨wc.heap.size + 1, 2, none⟩) hl_D).trans k_D_2
            replace f_D : ∀ o, wx14.frozen? ⟨wc.heap.size + 1, o, none⟩ = false := fun o => (hb.frozen (p := ⟨wc.heap.size + 1, o, none⟩) hl_D).trans (f_D o)
            replace HX_D := Lib.hid (HX_D.out.below hb)
            replace HN1 := Lib.hid (HN1.out.below hb)
            replace HN2 := Lib.hid (HN2.out.below hb)
            replace HD1 := Lib.hid (HD1.out.below hb)
            replace HD2 := Lib.hid (HD2.out.below hb)
            replace HB := Lib.hid (HB.out.trans (hb.mono hs0))
            replace hN : N ≤ wx14.heap.size := Nat.le_trans hN hb.size
            replace hs0 : w.heap.size ≤ wx14.heap.size := Nat.le_trans hs0 hb.size
            replace hl_N : wc.heap.size < wx14.heap.size := Nat.lt_of_lt_of_le hl_N hb.size
            replace hl_D : wc.heap.size + 1 < wx14.heap.size := Nat.lt_of_lt_of_le hl_D hb.size
            clear hb
            by_cases c11 : κ11 < 0
            · have c11d : decide (κ11 < 0) = true := by simpa using c11
              go_wp2_with fail
              refine bodyPost_ret (v := .tuple #[.int .i64 (-2), .int .i64 0]) (by simp [results, Tryd.results12, go_sem]) rfl ⟨?_, HB.out⟩
              rw [show c = -2 by rw [← HCL.out]; unfold claC; (repeat' split) <;> first | rfl | (exfalso; omega)]; rfl
            · have c11d : decide (κ11 < 0) = false := by simpa using c11
              go_wp2_with fail
              refine bodyPost_ret (v := .tuple #[.int .i64 (2), .int .i64 0]) (by simp [results, Tryd.results12, go_sem]) rfl ⟨?_, HB.out⟩
              rw [show c = 2 by rw [← HCL.out]; unfold claC; (repeat' split) <;> first | rfl | (exfalso; omega)]; rfl
          · have c12d : decide (κ12 < 0) = false := by simpa using c12
            go_wp2_with fail
            refine calls_name fun W15 hW => ?_
            have HL_W15 := Lib.hid (show Below wx13.heap.size wx13 W15 by rw [← hW]; exact BlA)
            have hs_W15 : wx13.heap.size ≤ W15.heap.size := by rw [← hW]; (first | omega | (simp; done) | (simp; omega))
            have HK_W15 := Lib.hid (show Kp N wx13 W15 by rw [← hW]; exact KpA)
            replace k_N_0 : W15.cell? ⟨wc.heap.size, 0, none⟩ = some (.bool (decide ((nu).num < 0))) := (HL_W15.out.cell (p := ⟨wc.heap.size, 0, none⟩) hl_N).trans k_N_0
            replace k_N_1 : W15.cell? ⟨wc.heap.size, 1, none⟩ = some (.slice ru (nlen (nu).num.natAbs) cu) := (HL_W15.out.cell (p := ⟨wc.heap.size, 1, none⟩) hl_N).trans k_N_1
            replace k_N_2 : W15.cell? ⟨wc.heap.size, 2, none⟩ = some (.slice ru2 (nlen (nu).den) cu2) := (HL_W15.out.cell (p := ⟨wc.heap.size, 2, none⟩) hl_N).trans k_N_2
            replace f_N : ∀ o, W15.frozen? ⟨wc.heap.size, o, none⟩ = false := fun o => (HL_W15.out.frozen (p := ⟨wc.heap.size, o, none⟩) hl_N).trans (f_N o)
            replace HX_N := Lib.hid (show Bn W15 (wc.heap.size) by rw [← hW]; exact KpA)
            replace k_D_0 : W15.cell? ⟨wc.heap.size + 1, 0, none⟩ = some (.bool (decide ((de).num < 0))) := (HL_W15.out.cell (p := ⟨wc.heap.size + 1, 0, none⟩) hl_D).trans k_D_0
            replace k_D_1 : W15.cell? ⟨wc.heap.size + 1, 1, none⟩ = some (.slice rv (nlen (de).num.natAbs) cv) := (HL_W15.out.cell (p := ⟨wc.heap.size + 1, 1, none⟩) hl_D).trans k_D_1
            replace k_D_2 : W15.cell? ⟨wc.heap.size + 1, 2, none⟩ = some (.slice rv2 (nlen (de).den) cv2) := (HL_W15.out.cell (p := ⟨wc.heap.size + 1, 2, none⟩) hl_D).trans k_D_2
            replace f_D : ∀ o, W15.frozen? ⟨wc.heap.size + 1, o, none⟩ = false := fun o => (HL_W15.out.frozen (p := ⟨wc.heap.size + 1, o, none⟩) hl_D).trans (f_D o)
            replace HX_D := Lib.hid (show Bn W15 (wc.heap.size + 1) by rw [← hW]; exact KpA)
            replace HN1 := Lib.hid (HN1.out.keep HK_W15.out)
            replace HN2 := Lib.hid (HN2.out.keep HK_W15.out)
            replace HD1 := Lib.hid (HD1.out.keep HK_W15.out)
            replace HD2 := Lib.hid (HD2.out.keep HK_W15.out)
            replace HB := Lib.hid (show Below w.heap.size w W15 by rw [← hW]; exact BlA)
            replace hN : N ≤ W15.heap.size := by rw [← hW]; (first | omega | (simp; done) | (simp; omega))
            replace hs0 : w.heap.size ≤ W15.heap.size := by rw [← hW]; (first | omega | (simp; done) | (simp; omega))
            replace hl_N : wc.heap.size < W15.heap.size := by rw [← hW]; (first | omega | (simp; done) | (simp; omega))
            replace hl_D : wc.heap.size + 1 < W15.heap.size := by rw [← hW]; (first | omega | (simp; done) | (simp; omega))
            clear HL_W15
            clear hW HK_W15
            refine (against_any (N := N) 1 1 _ _ nu de p11 _ hN ⟨_, _, _, _, ⟨hl_N, HX_N.out, f_N, k_N_0, k_N_1, k_N_2⟩, HN1.out, HN2.out⟩ ⟨_, _, _, _, ⟨hl_D, HX_D.out, f_D, k_D_0, k_D_1, k_D_2⟩, HD1.out, HD2.out⟩ HZN.out HZD.out (by omega) (by omega) (by omega) (by omega) HP11.out HZ11.out κ11 HK11.out).mono ?_
            rintro e wx15 ⟨rfl, hb⟩
            have hs_wx15 : W15.heap.size ≤ wx15.heap.size := hb.size
            replace k_N_0 : wx15.cell? ⟨wc.heap.size, 0, none⟩ = some (.bool (decide ((nu).num < 0))) := (hb.cell (p := ⟨wc.heap.size, 0, none⟩) hl_N).trans k_N_0
            replace k_N_1 : wx15.cell? ⟨wc.heap.size, 1, none⟩ = some (.slice ru (nlen (nu).num.natAbs) cu) := (hb.cell (p := ⟨wc.heap.size, 1, none⟩) hl_N).trans k_N_1
            replace k_N_2 : wx15.cell? ⟨wc.heap.size, 2, none⟩ = some (.slice ru2 (nlen (nu).den) cu2) := (hb.cell (p := ⟨wc.heap.size, 2, none⟩) hl_N).trans k_N_2
            replace f_N : ∀ o, wx15.frozen? ⟨wc.heap.size, o, none⟩ = false := fun o => (hb.frozen (p := ⟨wc.heap.size, o, none⟩) hl_N).trans (f_N o)
            replace HX_N := Lib.hid (HX_N.out.below hb)
            replace k_D_0 : wx15.cell? ⟨wc.heap.size + 1, 0, none⟩ = some (.bool (decide ((de).num < 0))) := (hb.cell (p := ⟨wc.heap.size + 1, 0, none⟩) hl_D).trans k_D_0
            replace k_D_1 : wx15.cell? ⟨wc.heap.size + 1, 1, none⟩ = some (.slice rv (nlen (de).num.natAbs) cv) := (hb.cell (p := ⟨wc.heap.size + 1, 1, none⟩) hl_D).trans k_D_1
            replace k_D_2 : wx15.cell? ⟨wc.heap.size + 1, 2, none⟩ = some (.slice rv2 (nlen (de).den) cv2) := (hb.cell (p := ⟨wc.heap.size + 1, 2, none⟩) hl_D).trans k_D_2
            replace f_D : ∀ o, wx15.frozen? ⟨wc.heap.size + 1, o, none⟩ = false := fun o => (hb.frozen (p := ⟨wc.heap.size + 1, o, none⟩) hl_D).trans (f_D o)
            replace HX_D := Lib.hid (HX_D.out.below hb)
            replace HN1 := Lib.hid (HN1.out.below hb)
            replace HN2 := Lib.hid (HN2.out.below hb)
            replace HD1 := Lib.hid (HD1.out.below hb)
            replace HD2 := Lib.hid (HD2.out.below hb)
            replace HB := Lib.hid (HB.out.trans (hb.mono hs0))
            replace hN : N ≤ wx15.heap.size := Nat.le_trans hN hb.size
            replace hs0 : w.heap.size ≤ wx15.heap.size := Nat.le_trans hs0 hb.size
            replace hl_N : wc.heap.size < wx15.heap.size := Nat.lt_of_lt_of_le hl_N hb.size
            replace hl_D : wc.heap.size + 1 < wx15.heap.size := Nat.lt_of_lt_of_le hl_D hb.size
            clear hb
            by_cases c11 : κ11 < 0
            · have c11d : decide (κ11 < 0) = true := by simpa using c11
              go_wp2_with fail
              refine bodyPost_ret (v := .tuple #[.int .i64 (-1), .int .i64 0]) (by simp [results, Tryd.results12, go_sem]) rfl ⟨?_, HB.out⟩
              rw [show c = -1 by rw [← HCL.out]; unfold claC; (repeat' split) <;> first | rfl | (exfalso; omega)]; rfl
            · have c11d : decide (κ11 < 0) = false := by simpa using c11
              go_wp2_with fail
              refine bodyPost_ret (v := .tuple #[.int .i64 (1), .int .i64 0]) (by simp [results, Tryd.results12, go_sem]) rfl ⟨?_, HB.out⟩
              rw [show c = 1 by rw [← HCL.out]; unfold claC; (repeat' split) <;> first | rfl | (exfalso; omega)]; rfl

end Go.Proofs.YtmecipfdelgfbaaDoor
