/- Contracts of ratio.Sub and Div: for rational numbers of at most 2^36 limbs in a part. -/
import Derived.Test.YtbjgnpgachdlaaaDoorRsz
namespace Go.Proofs.YtbjgnpgachdlaaaDoor
open Go.RowKit

theorem rsz_neg (q : Rat) : rsz (-q) = rsz q := by
  have h1 : (-q).num = -q.num := rfl
  have h2 : (-q).den = q.den := rfl
  unfold rsz; rw [h1, h2, Int.natAbs_neg]
theorem mk_div (x1 x2 : Int) : mkRat (zI (decide (x1 < 0) != decide (x2 < 0)) x1.natAbs) x2.natAbs = (x1 : Rat) / (x2 : Rat) := by
  have h1 : zI (decide (x1 < 0) != decide (x2 < 0)) x1.natAbs = if x2 < 0 then -x1 else x1 := by
    by_cases a : x1 < 0 <;> by_cases b : x2 < 0 <;> simp [zI, a, b] <;> omega
  rw [h1, Rat.mkRat_eq_div]
  by_cases b : x2 < 0
  · rw [if_pos b]
    have h2 : ((x2.natAbs : Nat) : Rat) = -(x2 : Rat) := by
      have : (x2.natAbs : Int) = -x2 := by omega
      have h3 : (((x2.natAbs : Nat) : Int) : Rat) = ((-x2 : Int) : Rat) := by rw [this]
      rw [Rat.intCast_neg] at h3
      exact h3
    rw [h2, Rat.intCast_neg]
    grind
  · rw [if_neg b]
    have h2 : ((x2.natAbs : Nat) : Rat) = (x2 : Rat) := by
      have : (x2.natAbs : Int) = x2 := by omega
      have h3 : (((x2.natAbs : Nat) : Int) : Rat) = ((x2 : Int) : Rat) := by rw [this]
      exact h3
    rw [h2]
theorem div_mk (z1 z2 x1 x2 : Int) (d1 d2 : Nat) (h1 : 0 < d1) (h2 : 0 < d2) (q q' p : Rat) (e1 : mkRat z1 d1 = q) (e2 : mkRat z2 d2 = q') (hp : q / q' = p) (a1 : z1 * zI false d2 = x1) (a2 : z2 * zI false d1 = x2) : mkRat (zI (decide (x1 < 0) != decide (x2 < 0)) x1.natAbs) x2.natAbs = p := by
  rw [mk_div, ← hp, ← e1, ← e2, ← a1, ← a2, Rat.mkRat_eq_div, Rat.mkRat_eq_div]
  have c1 : ((zI false d2 : Int) : Rat) = (d2 : Rat) := rfl
  have c2 : ((zI false d1 : Int) : Rat) = (d1 : Rat) := rfl
  rw [Rat.intCast_mul, Rat.intCast_mul, c1, c2]
  have n1 : (d1 : Rat) ≠ 0 := by intro e; have := Rat.natCast_inj.1 (e.trans (by rfl : (0 : Rat) = ((0 : Nat) : Rat))); omega
  have n2 : (d2 : Rat) ≠ 0 := by intro e; have := Rat.natCast_inj.1 (e.trans (by rfl : (0 : Rat) = ((0 : Nat) : Rat))); omega
  grind
theorem div_ok (z2 x2 : Int) (d1 d2 : Nat) (h1 : 0 < d1) (h2 : 0 < d2) (q' : Rat) (e2 : mkRat z2 d2 = q') (a2 : z2 * zI false d1 = x2) : decide (0 < x2.natAbs) = decide (q' ≠ 0) := by
  have hz : q' = 0 ↔ z2 = 0 := by rw [← e2]; exact Rat.mkRat_eq_zero (by omega)
  have hx : x2 = 0 ↔ z2 = 0 := by
    rw [← a2]
    have : zI false d1 ≠ 0 := by show (d1 : Int) ≠ 0; omega
    exact ⟨fun h => (Int.mul_eq_zero.1 h).resolve_right this, fun h => by rw [h]; exact Int.zero_mul _⟩
  apply decide_eq_decide.2
  rw [Ne, hz, ← hx]; omega

set_option maxHeartbeats 4000000 in
theorem rsub_any {N : Nat} (s s' : Bool) (a d a' d' : Option Addr) (na ca nd cd na' ca' nd' cd' L L' : Nat) (q q' : Rat) (w : World) (hN : N ≤ w.heap.size) (h : Rt N w s a na ca d nd cd q L) (h' : Rt N w s' a' na' ca' d' nd' cd' q' L') (hL : L ≤ 68719476736) (hL' : L' ≤ 68719476736) (p : Rat) (hp : q - q' = p) :
    Calls Tryd.prog 69 #[.agg #[.bool s, .slice a na ca, .slice d nd cd], .agg #[.bool s', .slice a' na' ca', .slice d' nd' cd']] w (RatPost N w p) := by
  obtain ⟨p1, hp1⟩ : ∃ p1, -q' = p1 := ⟨_, rfl⟩
  have HP := Lib.hid (show q + p1 = p by rw [← hp1, ← hp, Rat.sub_eq_add_neg])
  have HSZ := Lib.hid (show rsz p1 ≤ L' by rw [← hp1, rsz_neg]; exact h'.rsz_le)
  have HP1 := Lib.hid hp1
  have H := Lib.hid (((h.alloc (.cells #[.bool s, .slice a na ca, .slice d nd cd] 28)).alloc (.cells #[.bool s', .slice a' na' ca', .slice d' nd' cd'] 28)).alloc (.cells #[.bool false, .slice none 0 0, .slice none 0 0] 28))
  have H' := Lib.hid (((h'.alloc (.cells #[.bool s, .slice a na ca, .slice d nd cd] 28)).alloc (.cells #[.bool s', .slice a' na' ca', .slice d' nd' cd'] 28)).alloc (.cells #[.bool false, .slice none 0 0, .slice none 0 0] 28))
  clear h h' hp hp1
  go_enter Tryd.func69, Tryd.ntmps69
  go_wp2_with fail
  go_region_held3 (fun w' => w'.cell? ⟨w.heap.size, 0, none⟩ = some (.bool s) ∧ w'.cell? ⟨w.heap.size, 1, none⟩ = some (.slice a na ca) ∧ w'.cell? ⟨w.heap.size, 2, none⟩ = some (.slice d nd cd) ∧ w'.cell? ⟨w.heap.size + 1, 0, none⟩ = some (.bool s') ∧ w'.cell? ⟨w.heap.size + 1, 1, none⟩ = some (.slice a' na' ca') ∧ w'.cell? ⟨w.heap.size + 1, 2, none⟩ = some (.slice d' nd' cd'))
    (first | (go_keep; done) | ((try dsimp only); (repeat' apply And.intro) <;> (first | (go_keep; done) | (exact cell_keep_alloc_drew (by first | omega | (simp; omega)) (by first | assumption | go_simp)) | (exact cell_keep_alloc (by first | omega | (simp; omega)) (by first | assumption | go_simp)) | (rw [cell_set2 _ _ _ _ _ _ _ _ (by omega)]; assumption) | (rw [cell_set3 _ _ _ _ _ _ _ _ _ _ (by omega)]; assumption))))
    (first
      | (go_at_call 85; refine (rneg_any (N := N) _ _ _ _ _ _ _ L' q' _ (by simp; omega) (by exact H'.out) (by omega) p1 HP1.out).mono ?_; rintro e wa ⟨rn, cn, rn2, cn2, rfl, hn, hn', hb⟩; have kwa0 : wa.cell? ⟨w.heap.size, 0, none⟩ = some (.bool s) := (hb.cell (p := ⟨w.heap.size, 0, none⟩) (by first | (simp; done) | (simp; omega))).trans (by first | exact k0 | go_simp); have kwa1 : wa.cell? ⟨w.heap.size, 1, none⟩ = some (.slice a na ca) := (hb.cell (p := ⟨w.heap.size, 1, none⟩) (by first | (simp; done) | (simp; omega))).trans (by first | exact k1 | go_simp); have kwa2 : wa.cell? ⟨w.heap.size, 2, none⟩ = some (.slice d nd cd) := (hb.cell (p := ⟨w.heap.size, 2, none⟩) (by first | (simp; done) | (simp; omega))).trans (by first | exact k2 | go_simp); have kwa3 : wa.cell? ⟨w.heap.size + 1, 0, none⟩ = some (.bool s') := (hb.cell (p := ⟨w.heap.size + 1, 0, none⟩) (by first | (simp; done) | (simp; omega))).trans (by first | exact k3 | go_simp); have kwa4 : wa.cell? ⟨w.heap.size + 1, 1, none⟩ = some (.slice a' na' ca') := (hb.cell (p := ⟨w.heap.size + 1, 1, none⟩) (by first | (simp; done) | (simp; omega))).trans (by first | exact k4 | go_simp); have kwa5 : wa.cell? ⟨w.heap.size + 1, 2, none⟩ = some (.slice d' nd' cd') := (hb.cell (p := ⟨w.heap.size + 1, 2, none⟩) (by first | (simp; done) | (simp; omega))).trans (by first | exact k5 | go_simp); have hzwa0 : w.heap.size < wa.heap.size := (by have := hb.size; (try simp at this); omega); have hzwa1 : w.heap.size + 1 < wa.heap.size := (by have := hb.size; (try simp at this); omega); have hzwa2 : w.heap.size + 2 < wa.heap.size := (by have := hb.size; (try simp at this); omega); obtain ⟨hcwa, hfwa⟩ := bcell hb; have HBwa := Lib.hid hb; have HNwa := Lib.hid hn; have HN'wa := Lib.hid hn'; clear hb hn hn')
      | (go_at_call 11; refine (radd_any (N := N) _ _ _ _ _ _ _ _ _ _ _ _ _ _ L L' q p1 _ (by omega) (by exact H.out.below (bel_of_drew HBwa.out)) (by exact Rt.of_norm HNwa.out HN'wa.out L' HSZ.out) (by omega) (by omega) p HP.out).mono ?_; rintro e wb ⟨rx, cx, rx2, cx2, rfl, hn, hn', hb⟩; have kwb0 : wb.cell? ⟨w.heap.size, 0, none⟩ = some (.bool s) := (hb.cell (p := ⟨w.heap.size, 0, none⟩) (by omega)).trans kwa0; have kwb1 : wb.cell? ⟨w.heap.size, 1, none⟩ = some (.slice a na ca) := (hb.cell (p := ⟨w.heap.size, 1, none⟩) (by omega)).trans kwa1; have kwb2 : wb.cell? ⟨w.heap.size, 2, none⟩ = some (.slice d nd cd) := (hb.cell (p := ⟨w.heap.size, 2, none⟩) (by omega)).trans kwa2; have kwb3 : wb.cell? ⟨w.heap.size + 1, 0, none⟩ = some (.bool s') := (hb.cell (p := ⟨w.heap.size + 1, 0, none⟩) (by omega)).trans kwa3; have kwb4 : wb.cell? ⟨w.heap.size + 1, 1, none⟩ = some (.slice a' na' ca') := (hb.cell (p := ⟨w.heap.size + 1, 1, none⟩) (by omega)).trans kwa4; have kwb5 : wb.cell? ⟨w.heap.size + 1, 2, none⟩ = some (.slice d' nd' cd') := (hb.cell (p := ⟨w.heap.size + 1, 2, none⟩) (by omega)).trans kwa5; have hzwb0 : w.heap.size < wb.heap.size := (by have := hb.size; (try simp at this); omega); have hzwb1 : w.heap.size + 1 < wb.heap.size := (by have := hb.size; (try simp at this); omega); have hzwb2 : w.heap.size + 2 < wb.heap.size := (by have := hb.size; (try simp at this); omega); obtain ⟨hcwb, hfwb⟩ := bcell hb; have HBwb := Lib.hid hb; have HNwb := Lib.hid hn; have HN'wb := Lib.hid hn'; clear hb hn hn'))
  have HX := Lib.hid (((Bx.new' ((w.alloc (.cells #[.bool s, .slice a na ca, .slice d nd cd] 28)).alloc (.cells #[.bool s', .slice a' na' ca', .slice d' nd' cd'] 28)) #[.bool false, .slice none 0 0, .slice none 0 0] 28 (w.heap.size + 1 + 1) (by simp)).drewB HBwa.out).below HBwb.out)
  have HF := Lib.hid (fun v0 v1 v2 => fin3 hN (by omega) HX.out HNwb.out HN'wb.out (((bel3 w _ _ _).trans ((bel_of_drew HBwa.out).mono (by first | omega | (simp; done) | (simp; omega)))).trans (HBwb.out.mono (by first | omega | (simp; done) | (simp; omega)))) v0 v1 v2)
  go_wp2_with fail
  exact bodyPost_ret (v := .agg #[.bool (decide ((p).num < 0)), .slice rx (nlen (p).num.natAbs) cx, .slice rx2 (nlen (p).den) cx2]) (by simp [results, Tryd.results69, go_sem, hcwa, hcwb, hzwa2]) rfl ⟨_, _, _, _, rfl, (HF.out _ _ _).1, (HF.out _ _ _).2.1, (HF.out _ _ _).2.2⟩

set_option maxHeartbeats 8000000 in
theorem rdiv_any {N : Nat} (s s' : Bool) (a d a' d' : Option Addr) (na ca nd cd na' ca' nd' cd' L L' : Nat) (q q' : Rat) (w : World) (hN : N ≤ w.heap.size) (h : Rt N w s a na ca d nd cd q L) (h' : Rt N w s' a' na' ca' d' nd' cd' q' L') (hL : L ≤ 68719476736) (hL' : L' ≤ 68719476736) (p : Rat) (hp : q / q' = p) (ok : Bool) (hok : decide (q' ≠ 0) = ok) :
    Calls Tryd.prog 52 #[.agg #[.bool s, .slice a na ca, .slice d nd cd], .agg #[.bool s', .slice a' na' ca', .slice d' nd' cd']] w (RatPost2 N w p ok) := by
  have H := Lib.hid (((h.alloc (.cells #[.bool s, .slice a na ca, .slice d nd cd] 28)).alloc (.cells #[.bool s', .slice a' na' ca', .slice d' nd' cd'] 28)).alloc (.cells #[.bool false, .slice none 0 0, .slice none 0 0] 28))
  have H' := Lib.hid (((h'.alloc (.cells #[.bool s, .slice a na ca, .slice d nd cd] 28)).alloc (.cells #[.bool s', .slice a' na' ca', .slice d' nd' cd'] 28)).alloc (.cells #[.bool false, .slice none 0 0, .slice none 0 0] 28))
  have HP := Lib.hid hp
  have HOK := Lib.hid hok
  clear h h' hp hok
  go_enter Tryd.func52, Tryd.ntmps52
  go_wp2_with fail
  refine (parts_any (N := N) _ _ _ _ _ _ _ L q _ (by simp; omega) H.out).mono ?_
  rintro e wa ⟨s1, a1, na1, ca1, d1, nd1, cd1, mn1, md1, rfl, hn, hn', hp1, hq1, l1, l1', hb⟩
  obtain ⟨hcwa, hfwa⟩ := bcell hb
  have hzwa0 : w.heap.size < wa.heap.size := by have := hb.size; (try simp at this); omega
  have hzwa1 : w.heap.size + 1 < wa.heap.size := by have := hb.size; (try simp at this); omega
  have hzwa2 : w.heap.size + 2 < wa.heap.size := by have := hb.size; (try simp at this); omega
  have HBwa := Lib.hid hb
  have HNwa := Lib.hid hn
  have HN'wa := Lib.hid hn'
  clear hb hn hn'
  go_wp2_with fail
  refine (parts_any (N := N) _ _ _ _ _ _ _ L' q' _ (by simp; omega) ((H'.out.below HBwa.out).alloc _)).mono ?_
  rintro e wb ⟨s2, a2, na2, ca2, d2, nd2, cd2, mn2, md2, rfl, hn, hn', hp2, hq2, l2, l2', hb⟩
  obtain ⟨hcwb, hfwb⟩ := bcell hb
  have hzwb0 : w.heap.size < wb.heap.size := by have := hb.size; (try simp at this); omega
  have hzwb1 : w.heap.size + 1 < wb.heap.size := by have := hb.size; (try simp at this); omega
  have hzwb2 : w.heap.size + 2 < wb.heap.size := by have := hb.size; (try simp at this); omega
  have hzwb3 : wa.heap.size < wb.heap.size := by have := hb.size; (try simp at this); omega
  have HBwb := Lib.hid hb
  have HNwb := Lib.hid hn
  have HN'wb := Lib.hid hn'
  clear hb hn hn'
  obtain ⟨x1, hx1⟩ : ∃ x, zI s1 mn1 * zI false md2 = x := ⟨_, rfl⟩
  obtain ⟨x2, hx2⟩ : ∃ x, zI s2 mn2 * zI false md1 = x := ⟨_, rfl⟩
  have HQ := Lib.hid (div_mk _ _ x1 x2 md1 md2 hp1 hp2 q q' p hq1 hq2 HP.out hx1 hx2)
  have HO := Lib.hid ((div_ok _ x2 md1 md2 hp1 hp2 q' hq2 hx2).trans HOK.out)
  have lx1 := nlen_imul hx1
  have lx2 := nlen_imul hx2
  have b1 := nlen_bound HNwa.out _ l1
  have b2 := nlen_bound HNwb.out _ l2
  have b3 := nlen_bound HN'wa.out _ l1'
  have b4 := nlen_bound HN'wb.out _ l2'
  have HX1 := Lib.hid hx1
  have HX2 := Lib.hid hx2
  clear hq1 hq2 hx1 hx2
  have tok1 : True := trivial
  have tok2 : True := trivial
  go_wp2_with fail
  go_region_held3 (fun w' => w'.cell? ⟨wa.heap.size, 0, none⟩ = some (.bool s1) ∧ w'.cell? ⟨wa.heap.size, 1, none⟩ = some (.slice a1 na1 ca1) ∧ w'.cell? ⟨wb.heap.size, 0, none⟩ = some (.bool s2) ∧ w'.cell? ⟨wb.heap.size, 1, none⟩ = some (.slice a2 na2 ca2))
    (first | (go_keep; done) | ((try dsimp only); (repeat' apply And.intro) <;> (first | (go_keep; done) | (exact cell_keep_alloc_drew (by first | omega | (simp; omega)) (by first | assumption | go_simp)) | (exact cell_keep_alloc (by first | omega | (simp; omega)) (by first | assumption | go_simp)) | (rw [cell_set2 _ _ _ _ _ _ _ _ (by omega)]; assumption) | (rw [cell_set3 _ _ _ _ _ _ _ _ _ _ (by omega)]; assumption))))
    (first
      | (go_at_call 44; have _t := tok1; refine (whole_any (N := N) _ _ _ md2 _ (by simp; omega) (by exact HN'wb.out.alloc (.cells #[.bool s2, .slice a2 na2 ca2] 26)) (by omega)).mono ?_; rintro e wc ⟨rc, cc', rfl, hn, hb⟩; have kwc0 : wc.cell? ⟨wa.heap.size, 0, none⟩ = some (.bool s1) := (hb.cell (p := ⟨wa.heap.size, 0, none⟩) (by first | (simp; done) | (simp; omega))).trans (by first | exact k0 | go_simp); have kwc1 : wc.cell? ⟨wa.heap.size, 1, none⟩ = some (.slice a1 na1 ca1) := (hb.cell (p := ⟨wa.heap.size, 1, none⟩) (by first | (simp; done) | (simp; omega))).trans (by first | exact k1 | go_simp); have kwc2 : wc.cell? ⟨wb.heap.size, 0, none⟩ = some (.bool s2) := (hb.cell (p := ⟨wb.heap.size, 0, none⟩) (by first | (simp; done) | (simp; omega))).trans (by first | exact k2 | go_simp); have kwc3 : wc.cell? ⟨wb.heap.size, 1, none⟩ = some (.slice a2 na2 ca2) := (hb.cell (p := ⟨wb.heap.size, 1, none⟩) (by first | (simp; done) | (simp; omega))).trans (by first | exact k3 | go_simp); have hzwc0 : w.heap.size < wc.heap.size := (by have := hb.size; (try simp at this); omega); have hzwc1 : w.heap.size + 1 < wc.heap.size := (by have := hb.size; (try simp at this); omega); have hzwc2 : w.heap.size + 2 < wc.heap.size := (by have := hb.size; (try simp at this); omega); have hzwc3 : wa.heap.size < wc.heap.size := (by have := hb.size; (try simp at this); omega); have hzwc4 : wb.heap.size < wc.heap.size := (by have := hb.size; (try simp at this); omega); obtain ⟨hcwc, hfwc⟩ := bcell hb; have HBwc := Lib.hid hb; have HNwc := Lib.hid hn; clear hb hn _t tok1)
      | (go_at_call 43; have _t := tok2; refine (imul_any (N := N) _ _ _ _ _ _ mn1 _ _ md2 _ (by omega) (by exact (((HNwa.out.below (bel_of_alloc HBwb.out)).alloc (.cells #[.bool s2, .slice a2 na2 ca2] 26)).below (bel_of_drew HBwc.out))) (by exact HNwc.out) (by omega) (by omega) x1 HX1.out).mono ?_; rintro e wd ⟨rd, cdd, rfl, hn, hb⟩; have kwd0 : wd.cell? ⟨wa.heap.size, 0, none⟩ = some (.bool s1) := (hb.cell (p := ⟨wa.heap.size, 0, none⟩) (by omega)).trans kwc0; have kwd1 : wd.cell? ⟨wa.heap.size, 1, none⟩ = some (.slice a1 na1 ca1) := (hb.cell (p := ⟨wa.heap.size, 1, none⟩) (by omega)).trans kwc1; have kwd2 : wd.cell? ⟨wb.heap.size, 0, none⟩ = some (.bool s2) := (hb.cell (p := ⟨wb.heap.size, 0, none⟩) (by omega)).trans kwc2; have kwd3 : wd.cell? ⟨wb.heap.size, 1, none⟩ = some (.slice a2 na2 ca2) := (hb.cell (p := ⟨wb.heap.size, 1, none⟩) (by omega)).trans kwc3; have hzwd0 : w.heap.size < wd.heap.size := (by have := hb.size; (try simp at this); omega); have hzwd1 : w.heap.size + 1 < wd.heap.size := (by have := hb.size; (try simp at this); omega); have hzwd2 : w.heap.size + 2 < wd.heap.size := (by have := hb.size; (try simp at this); omega); have hzwd3 : wa.heap.size < wd.heap.size := (by have := hb.size; (try simp at this); omega); have hzwd4 : wb.heap.size < wd.heap.size := (by have := hb.size; (try simp at this); omega); obtain ⟨hcwd, hfwd⟩ := bcell hb; have HBwd := Lib.hid hb; have HNwd := Lib.hid hn; clear hb hn _t tok2)
      | (go_at_call 44; refine (whole_any (N := N) _ _ _ md1 _ (by omega) (by exact ((((HN'wa.out.below (bel_of_alloc HBwb.out)).alloc (.cells #[.bool s2, .slice a2 na2 ca2] 26)).below (bel_of_drew HBwc.out)).below HBwd.out)) (by omega)).mono ?_; rintro e we ⟨re, ce', rfl, hn, hb⟩; have kwe0 : we.cell? ⟨wa.heap.size, 0, none⟩ = some (.bool s1) := (hb.cell (p := ⟨wa.heap.size, 0, none⟩) (by omega)).trans kwd0; have kwe1 : we.cell? ⟨wa.heap.size, 1, none⟩ = some (.slice a1 na1 ca1) := (hb.cell (p := ⟨wa.heap.size, 1, none⟩) (by omega)).trans kwd1; have kwe2 : we.cell? ⟨wb.heap.size, 0, none⟩ = some (.bool s2) := (hb.cell (p := ⟨wb.heap.size, 0, none⟩) (by omega)).trans kwd2; have kwe3 : we.cell? ⟨wb.heap.size, 1, none⟩ = some (.slice a2 na2 ca2) := (hb.cell (p := ⟨wb.heap.size, 1, none⟩) (by omega)).trans kwd3; have hzwe0 : w.heap.size < we.heap.size := (by have := hb.size; (try simp at this); omega); have hzwe1 : w.heap.size + 1 < we.heap.size := (by have := hb.size; (try simp at this); omega); have hzwe2 : w.heap.size + 2 < we.heap.size := (by have := hb.size; (try simp at this); omega); have hzwe3 : wa.heap.size < we.heap.size := (by have := hb.size; (try simp at this); omega); have hzwe4 : wb.heap.size < we.heap.size := (by have := hb.size; (try simp at this); omega); obtain ⟨hcwe, hfwe⟩ := bcell hb; have HBwe := Lib.hid hb; have HNwe := Lib.hid hn; clear hb hn)
      | (go_at_call 43; refine (imul_any (N := N) _ _ _ _ _ _ mn2 _ _ md1 _ (by omega) (by exact ((((HNwb.out.alloc (.cells #[.bool s2, .slice a2 na2 ca2] 26)).below (bel_of_drew HBwc.out)).below HBwd.out).below HBwe.out)) (by exact HNwe.out) (by omega) (by omega) x2 HX2.out).mono ?_; rintro e wf ⟨rf, cf', rfl, hn, hb⟩; have kwf0 : wf.cell? ⟨wa.heap.size, 0, none⟩ = some (.bool s1) := (hb.cell (p := ⟨wa.heap.size, 0, none⟩) (by omega)).trans kwe0; have kwf1 : wf.cell? ⟨wa.heap.size, 1, none⟩ = some (.slice a1 na1 ca1) := (hb.cell (p := ⟨wa.heap.size, 1, none⟩) (by omega)).trans kwe1; have kwf2 : wf.cell? ⟨wb.heap.size, 0, none⟩ = some (.bool s2) := (hb.cell (p := ⟨wb.heap.size, 0, none⟩) (by omega)).trans kwe2; have kwf3 : wf.cell? ⟨wb.heap.size, 1, none⟩ = some (.slice a2 na2 ca2) := (hb.cell (p := ⟨wb.heap.size, 1, none⟩) (by omega)).trans kwe3; have hzwf0 : w.heap.size < wf.heap.size := (by have := hb.size; (try simp at this); omega); have hzwf1 : w.heap.size + 1 < wf.heap.size := (by have := hb.size; (try simp at this); omega); have hzwf2 : w.heap.size + 2 < wf.heap.size := (by have := hb.size; (try simp at this); omega); have hzwf3 : wa.heap.size < wf.heap.size := (by have := hb.size; (try simp at this); omega); have hzwf4 : wb.heap.size < wf.heap.size := (by have := hb.size; (try simp at this); omega); obtain ⟨hcwf, hfwf⟩ := bcell hb; have HBwf := Lib.hid hb; have HNwf := Lib.hid hn; clear hb hn)
      | (go_at_call 48; refine (rmake_any (N := N) _ _ _ _ _ _ x1.natAbs _ _ x2.natAbs _ (by omega) (by exact (HNwd.out.below HBwe.out).below HBwf.out) (by exact HNwf.out) (by omega) (by omega) p HQ.out).mono ?_; rw [HO.out]; rintro e wg ⟨rx, cx, rx2, cx2, rfl, hn, hn', hb⟩; have kwg0 : wg.cell? ⟨wa.heap.size, 0, none⟩ = some (.bool s1) := (hb.cell (p := ⟨wa.heap.size, 0, none⟩) (by omega)).trans kwf0; have kwg1 : wg.cell? ⟨wa.heap.size, 1, none⟩ = some (.slice a1 na1 ca1) := (hb.cell (p := ⟨wa.heap.size, 1, none⟩) (by omega)).trans kwf1; have kwg2 : wg.cell? ⟨wb.heap.size, 0, none⟩ = some (.bool s2) := (hb.cell (p := ⟨wb.heap.size, 0, none⟩) (by omega)).trans kwf2; have kwg3 : wg.cell? ⟨wb.heap.size, 1, none⟩ = some (.slice a2 na2 ca2) := (hb.cell (p := ⟨wb.heap.size, 1, none⟩) (by omega)).trans kwf3; have hzwg0 : w.heap.size < wg.heap.size := (by have := hb.size; (try simp at this); omega); have hzwg1 : w.heap.size + 1 < wg.heap.size := (by have := hb.size; (try simp at this); omega); have hzwg2 : w.heap.size + 2 < wg.heap.size := (by have := hb.size; (try simp at this); omega); have hzwg3 : wa.heap.size < wg.heap.size := (by have := hb.size; (try simp at this); omega); have hzwg4 : wb.heap.size < wg.heap.size := (by have := hb.size; (try simp at this); omega); obtain ⟨hcwg, hfwg⟩ := bcell hb; have HBwg := Lib.hid hb; have HNwg := Lib.hid hn; have HN'wg := Lib.hid hn'; clear hb hn hn'))
  have HX := Lib.hid ((((((((((Bx.new' ((w.alloc (.cells #[.bool s, .slice a na ca, .slice d nd cd] 28)).alloc (.cells #[.bool s', .slice a' na' ca', .slice d' nd' cd'] 28)) #[.bool false, .slice none 0 0, .slice none 0 0] 28 (w.heap.size + 1 + 1) (by simp)).below HBwa.out).below (bel_of_alloc HBwb.out)).alloc (.cells #[.bool s2, .slice a2 na2 ca2] 26)).below (bel_of_drew HBwc.out)).below HBwd.out).below HBwe.out).below HBwf.out).below HBwg.out))
  have HF := Lib.hid (fun v0 v1 v2 => fin3 hN (by omega) HX.out HNwg.out HN'wg.out ((((((((bel3 w _ _ _).trans (HBwa.out.mono (by first | omega | (simp; done) | (simp; omega)))).trans ((bel_of_alloc HBwb.out).mono (by first | omega | (simp; done) | (simp; omega)))).trans ((bel_of_alloc (bel_of_drew HBwc.out)).mono (by first | omega | (simp; done) | (simp; omega)))).trans (HBwd.out.mono (by first | omega | (simp; done) | (simp; omega)))).trans (HBwe.out.mono (by first | omega | (simp; done) | (simp; omega)))).trans (HBwf.out.mono (by first | omega | (simp; done) | (simp; omega)))).trans (HBwg.out.mono (by first | omega | (simp; done) | (simp; omega)))) v0 v1 v2)
  go_wp2_with fail
  exact bodyPost_ret (v := .tuple #[.agg #[.bool (decide ((p).num < 0)), .slice rx (nlen (p).num.natAbs) cx, .slice rx2 (nlen (p).den) cx2], .bool ok]) (by simp [results, Tryd.results52, go_sem, hcwa, hcwb, hcwc, hcwd, hcwe, hcwf, hcwg, hzwa1, hzwa2, hzwb1, hzwb2, hzwc2, hzwd2, hzwe2, hzwf2]) rfl ⟨_, _, _, _, rfl, (HF.out _ _ _).1, (HF.out _ _ _).2.1, (HF.out _ _ _).2.2⟩

end Go.Proofs.YtbjgnpgachdlaaaDoor
