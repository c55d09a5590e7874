/- Contracts of ratio.Cmp and Add: for rational numbers of at most 2^36 limbs in a part. -/
import Derived.Test.YtnillajhhimeiaaDoorRatC
namespace Go.Proofs.YtnillajhhimeiaaDoor
open Go.RowKit

/-- -1, 0 or 1 -/
def cmpQ (p q : Rat) : Int := if p < q then -1 else if q < p then 1 else 0
theorem mk_cross (z : Int) (d : Nat) (h : 0 < d) : mkRat z d * (d : Rat) = (z : Rat) := by
  rw [Rat.mkRat_eq_div, Rat.div_mul_cancel]
  intro e
  have := Rat.natCast_pos.2 h
  rw [e] at this
  exact Rat.lt_irrefl this
theorem mk_lt (z1 z2 : Int) (d1 d2 : Nat) (h1 : 0 < d1) (h2 : 0 < d2) : mkRat z1 d1 < mkRat z2 d2 ↔ z1 * d2 < z2 * d1 := by
  have p1 : (0 : Rat) < (d1 : Rat) := Rat.natCast_pos.2 h1
  have p2 : (0 : Rat) < (d2 : Rat) := Rat.natCast_pos.2 h2
  rw [← Rat.mul_lt_mul_right (Rat.mul_pos p1 p2)]
  have e1 : mkRat z1 d1 * ((d1 : Rat) * (d2 : Rat)) = ((z1 * d2 : Int) : Rat) := by rw [← Rat.mul_assoc, mk_cross z1 d1 h1]; simp; rfl
  have e2 : mkRat z2 d2 * ((d1 : Rat) * (d2 : Rat)) = ((z2 * d1 : Int) : Rat) := by rw [Rat.mul_comm (d1 : Rat), ← Rat.mul_assoc, mk_cross z2 d2 h2]; simp; rfl
  rw [e1, e2, Rat.intCast_lt_intCast]
theorem cmp_mk (z1 z2 x1 x2 : Int) (d1 d2 : Nat) (h1 : 0 < d1) (h2 : 0 < d2) (p q : Rat) (e1 : mkRat z1 d1 = p) (e2 : mkRat z2 d2 = q) (a1 : z1 * zI false d2 = x1) (a2 : z2 * zI false d1 = x2) : cmpZ (zI (decide (x1 < 0)) x1.natAbs) (zI (decide (x2 < 0)) x2.natAbs) = cmpQ p q := by
  rw [zI_norm, zI_norm, ← a1, ← a2, ← e1, ← e2]
  unfold cmpZ cmpQ
  have l1 := mk_lt z1 z2 d1 d2 h1 h2
  have l2 := mk_lt z2 z1 d2 d1 h2 h1
  have f1 : zI false d1 = (d1 : Int) := rfl
  have f2 : zI false d2 = (d2 : Int) := rfl
  rw [f1, f2]
  by_cases c1 : mkRat z1 d1 < mkRat z2 d2
  · rw [if_pos c1, if_pos (l1.1 c1)]
  · rw [if_neg c1, if_neg (fun h => c1 (l1.2 h))]
    by_cases c2 : mkRat z2 d2 < mkRat z1 d1
    · rw [if_pos c2, if_pos (l2.1 c2)]
    · rw [if_neg c2, if_neg (fun h => c2 (l2.2 h))]

set_option maxHeartbeats 4000000 in
theorem rcmp_any {N : Nat} (s s' : Bool) (a d a' d' : Option Addr) (na ca nd cd na' ca' nd' cd' L L' : Nat) (q q' : Rat) (w : World) (hN : N ≤ w.heap.size) (h : Rt N w s a na ca d nd cd q L) (h' : Rt N w s' a' na' ca' d' nd' cd' q' L') (hL : L ≤ 68719476736) (hL' : L' ≤ 68719476736) :
    Calls Tryd.prog 12 #[.agg #[.bool s, .slice a na ca, .slice d nd cd], .agg #[.bool s', .slice a' na' ca', .slice d' nd' cd']] w fun e w' => e = .returned (.int .i64 (cmpQ q q')) ∧ Below w.heap.size w w' := by
  have H := Lib.hid ((h.alloc (.cells #[.bool s, .slice a na ca, .slice d nd cd] 30)).alloc (.cells #[.bool s', .slice a' na' ca', .slice d' nd' cd'] 30))
  have H' := Lib.hid ((h'.alloc (.cells #[.bool s, .slice a na ca, .slice d nd cd] 30)).alloc (.cells #[.bool s', .slice a' na' ca', .slice d' nd' cd'] 30))
  clear h h'
  have tok1 := trivial
  have tok2 := trivial
  have tok3 := trivial
  go_enter Tryd.func12, Tryd.ntmps12
  go_wp2_with fail
  refine (parts_any (N := N) _ _ _ _ _ _ _ L q _ (by simp; omega) H.out).mono ?_
  rintro e wa ⟨s1, a1, na1, ca1, d1, nd1, cd1, mn1, md1, rfl, hn, hn', hp1, hq1, l1, l1', hb⟩
  obtain ⟨hcwa, hfwa⟩ := bcell hb
  have hzwa0 : w.heap.size < wa.heap.size := by have := hb.size; (try simp at this); omega
  have hzwa1 : w.heap.size + 1 < wa.heap.size := by have := hb.size; (try simp at this); omega
  have HBwa := Lib.hid hb
  have HNwa := Lib.hid hn
  have HN'wa := Lib.hid hn'
  clear hb hn hn'
  go_wp2_with fail
  refine (parts_any (N := N) _ _ _ _ _ _ _ L' q' _ (by simp; omega) ((H'.out.below HBwa.out).alloc _)).mono ?_
  rintro e wb ⟨s2, a2, na2, ca2, d2, nd2, cd2, mn2, md2, rfl, hn, hn', hp2, hq2, l2, l2', hb⟩
  obtain ⟨hcwb, hfwb⟩ := bcell hb
  have hzwb0 : w.heap.size < wb.heap.size := by have := hb.size; (try simp at this); omega
  have hzwb1 : w.heap.size + 1 < wb.heap.size := by have := hb.size; (try simp at this); omega
  have hzwb2 : wa.heap.size < wb.heap.size := by have := hb.size; (try simp at this); omega
  have HBwb := Lib.hid hb
  have HNwb := Lib.hid hn
  have HN'wb := Lib.hid hn'
  clear hb hn hn'
  have b1 := nlen_bound HNwa.out _ l1
  have b2 := nlen_bound HNwb.out _ l2
  have b3 := nlen_bound HN'wa.out _ l1'
  have b4 := nlen_bound HN'wb.out _ l2'
  obtain ⟨x1, hx1⟩ : ∃ z, zI s1 mn1 * zI false md2 = z := ⟨_, rfl⟩
  obtain ⟨x2, hx2⟩ : ∃ z, zI s2 mn2 * zI false md1 = z := ⟨_, rfl⟩
  have lx1 := nlen_imul hx1
  have lx2 := nlen_imul hx2
  have HQ := Lib.hid (cmp_mk (zI s1 mn1) (zI s2 mn2) x1 x2 md1 md2 hp1 hp2 q q' hq1 hq2 hx1 hx2)
  have HX1 := Lib.hid hx1
  have HX2 := Lib.hid hx2
  clear hq1 hq2 hx1 hx2
  go_wp2_with fail
  go_region_held3 (fun w' => w'.cell? ⟨wa.heap.size, 0, none⟩ = some (.bool s1) ∧ w'.cell? ⟨wa.heap.size, 1, none⟩ = some (.slice a1 na1 ca1) ∧ w'.cell? ⟨wb.heap.size, 0, none⟩ = some (.bool s2) ∧ w'.cell? ⟨wb.heap.size, 1, none⟩ = some (.slice a2 na2 ca2))
    (first | (go_keep; done) | ((try dsimp only); (repeat' apply And.intro) <;> (first | (go_keep; done) | (rw [cell_set2 _ _ _ _ _ _ _ _ (by omega)]; assumption) | (rw [cell_set3 _ _ _ _ _ _ _ _ _ _ (by omega)]; assumption))))
    (first
      | (go_at_call 36; have _t := tok1; refine (whole_any (N := N) _ _ _ md2 _ (by simp; omega) (by exact (HN'wb.out.alloc _)) (by omega)).mono ?_; rintro e wc ⟨rc, cc1, rfl, hn, hb⟩; have kwc0 : wc.cell? ⟨wa.heap.size, 0, none⟩ = some (.bool s1) := (hb.cell (p := ⟨wa.heap.size, 0, none⟩) (by first | (simp; done) | (simp; omega))).trans (by go_simp); have kwc1 : wc.cell? ⟨wa.heap.size, 1, none⟩ = some (.slice a1 na1 ca1) := (hb.cell (p := ⟨wa.heap.size, 1, none⟩) (by first | (simp; done) | (simp; omega))).trans (by go_simp); have kwc2 : wc.cell? ⟨wb.heap.size, 0, none⟩ = some (.bool s2) := (hb.cell (p := ⟨wb.heap.size, 0, none⟩) (by first | (simp; done) | (simp; omega))).trans (by go_simp); have kwc3 : wc.cell? ⟨wb.heap.size, 1, none⟩ = some (.slice a2 na2 ca2) := (hb.cell (p := ⟨wb.heap.size, 1, none⟩) (by first | (simp; done) | (simp; omega))).trans (by go_simp); have hzwc0 : w.heap.size < wc.heap.size := (by have := hb.size; (try simp at this); omega); have hzwc1 : w.heap.size + 1 < wc.heap.size := (by have := hb.size; (try simp at this); omega); have hzwc2 : wa.heap.size < wc.heap.size := (by have := hb.size; (try simp at this); omega); have hzwc3 : wb.heap.size < wc.heap.size := (by have := hb.size; (try simp at this); omega); obtain ⟨hcwc, hfwc⟩ := bcell hb; have HBwc := Lib.hid hb; have HNwc := Lib.hid hn; clear hb hn _t tok1)
      | (go_at_call 35; have _t := tok2; refine (imul_any (N := N) s1 false _ _ _ _ mn1 _ _ md2 _ (by omega) (by exact (((HNwa.out.below (bel_of_alloc HBwb.out)).alloc _).below (bel_of_drew HBwc.out))) (by exact HNwc.out) (by omega) (by omega) x1 HX1.out).mono ?_; rintro e wd ⟨rd, cd3, rfl, hn, hb⟩; have kwd0 : wd.cell? ⟨wa.heap.size, 0, none⟩ = some (.bool s1) := (hb.cell (p := ⟨wa.heap.size, 0, none⟩) (by omega)).trans kwc0; have kwd1 : wd.cell? ⟨wa.heap.size, 1, none⟩ = some (.slice a1 na1 ca1) := (hb.cell (p := ⟨wa.heap.size, 1, none⟩) (by omega)).trans kwc1; have kwd2 : wd.cell? ⟨wb.heap.size, 0, none⟩ = some (.bool s2) := (hb.cell (p := ⟨wb.heap.size, 0, none⟩) (by omega)).trans kwc2; have kwd3 : wd.cell? ⟨wb.heap.size, 1, none⟩ = some (.slice a2 na2 ca2) := (hb.cell (p := ⟨wb.heap.size, 1, none⟩) (by omega)).trans kwc3; have hzwd0 : w.heap.size < wd.heap.size := (by have := hb.size; (try simp at this); omega); have hzwd1 : w.heap.size + 1 < wd.heap.size := (by have := hb.size; (try simp at this); omega); have hzwd2 : wa.heap.size < wd.heap.size := (by have := hb.size; (try simp at this); omega); have hzwd3 : wb.heap.size < wd.heap.size := (by have := hb.size; (try simp at this); omega); obtain ⟨hcwd, hfwd⟩ := bcell hb; have HBwd := Lib.hid hb; have HNwd := Lib.hid hn; clear hb hn _t tok2)
      | (go_at_call 36; have _t := tok3; refine (whole_any (N := N) _ _ _ md1 _ (by omega) (by exact ((((HN'wa.out.below (bel_of_alloc HBwb.out)).alloc _).below (bel_of_drew HBwc.out)).below HBwd.out)) (by omega)).mono ?_; rintro e we ⟨re, ce1, rfl, hn, hb⟩; have kwe0 : we.cell? ⟨wa.heap.size, 0, none⟩ = some (.bool s1) := (hb.cell (p := ⟨wa.heap.size, 0, none⟩) (by omega)).trans kwd0; have kwe1 : we.cell? ⟨wa.heap.size, 1, none⟩ = some (.slice a1 na1 ca1) := (hb.cell (p := ⟨wa.heap.size, 1, none⟩) (by omega)).trans kwd1; have kwe2 : we.cell? ⟨wb.heap.size, 0, none⟩ = some (.bool s2) := (hb.cell (p := ⟨wb.heap.size, 0, none⟩) (by omega)).trans kwd2; have kwe3 : we.cell? ⟨wb.heap.size, 1, none⟩ = some (.slice a2 na2 ca2) := (hb.cell (p := ⟨wb.heap.size, 1, none⟩) (by omega)).trans kwd3; have hzwe0 : w.heap.size < we.heap.size := (by have := hb.size; (try simp at this); omega); have hzwe1 : w.heap.size + 1 < we.heap.size := (by have := hb.size; (try simp at this); omega); have hzwe2 : wa.heap.size < we.heap.size := (by have := hb.size; (try simp at this); omega); have hzwe3 : wb.heap.size < we.heap.size := (by have := hb.size; (try simp at this); omega); obtain ⟨hcwe, hfwe⟩ := bcell hb; have HBwe := Lib.hid hb; have HNwe := Lib.hid hn; clear hb hn _t tok3)
      | (go_at_call 35; refine (imul_any (N := N) s2 false _ _ _ _ mn2 _ _ md1 _ (by omega) (by exact ((((HNwb.out.alloc _).below (bel_of_drew HBwc.out)).below HBwd.out).below HBwe.out)) (by exact HNwe.out) (by omega) (by omega) x2 HX2.out).mono ?_; rintro e wf ⟨rf, cf1, rfl, hn, hb⟩; have kwf0 : wf.cell? ⟨wa.heap.size, 0, none⟩ = some (.bool s1) := (hb.cell (p := ⟨wa.heap.size, 0, none⟩) (by omega)).trans kwe0; have kwf1 : wf.cell? ⟨wa.heap.size, 1, none⟩ = some (.slice a1 na1 ca1) := (hb.cell (p := ⟨wa.heap.size, 1, none⟩) (by omega)).trans kwe1; have kwf2 : wf.cell? ⟨wb.heap.size, 0, none⟩ = some (.bool s2) := (hb.cell (p := ⟨wb.heap.size, 0, none⟩) (by omega)).trans kwe2; have kwf3 : wf.cell? ⟨wb.heap.size, 1, none⟩ = some (.slice a2 na2 ca2) := (hb.cell (p := ⟨wb.heap.size, 1, none⟩) (by omega)).trans kwe3; have hzwf0 : w.heap.size < wf.heap.size := (by have := hb.size; (try simp at this); omega); have hzwf1 : w.heap.size + 1 < wf.heap.size := (by have := hb.size; (try simp at this); omega); have hzwf2 : wa.heap.size < wf.heap.size := (by have := hb.size; (try simp at this); omega); have hzwf3 : wb.heap.size < wf.heap.size := (by have := hb.size; (try simp at this); omega); obtain ⟨hcwf, hfwf⟩ := bcell hb; have HBwf := Lib.hid hb; have HNwf := Lib.hid hn; clear hb hn)
      | (go_at_call 34; refine (icmp_any (N := N) _ _ _ _ _ _ x1.natAbs _ _ x2.natAbs _ (by exact ((HNwd.out.below HBwe.out).below HBwf.out)) (by exact HNwf.out)).mono ?_; rw [HQ.out]; rintro e wg ⟨rfl, hb⟩; have kwg0 : wg.cell? ⟨wa.heap.size, 0, none⟩ = some (.bool s1) := (hb.cell (p := ⟨wa.heap.size, 0, none⟩) (by omega)).trans kwf0; have kwg1 : wg.cell? ⟨wa.heap.size, 1, none⟩ = some (.slice a1 na1 ca1) := (hb.cell (p := ⟨wa.heap.size, 1, none⟩) (by omega)).trans kwf1; have kwg2 : wg.cell? ⟨wb.heap.size, 0, none⟩ = some (.bool s2) := (hb.cell (p := ⟨wb.heap.size, 0, none⟩) (by omega)).trans kwf2; have kwg3 : wg.cell? ⟨wb.heap.size, 1, none⟩ = some (.slice a2 na2 ca2) := (hb.cell (p := ⟨wb.heap.size, 1, none⟩) (by omega)).trans kwf3; have hzwg0 : w.heap.size < wg.heap.size := (by have := hb.size; (try simp at this); omega); have hzwg1 : w.heap.size + 1 < wg.heap.size := (by have := hb.size; (try simp at this); omega); have hzwg2 : wa.heap.size < wg.heap.size := (by have := hb.size; (try simp at this); omega); have hzwg3 : wb.heap.size < wg.heap.size := (by have := hb.size; (try simp at this); omega); obtain ⟨hcwg, hfwg⟩ := bcell hb; have HBwg := Lib.hid hb; clear hb ))
  go_wp2_with fail
  go_ret
  exact ⟨rfl, ((((((((bel2 w _ _).trans (HBwa.out.mono (by first | omega | (simp; done) | (simp; omega)))).trans ((bel_of_alloc HBwb.out).mono (by first | omega | (simp; done) | (simp; omega)))).trans ((bel_of_alloc (bel_of_drew HBwc.out)).mono (by first | omega | (simp; done) | (simp; omega)))).trans (HBwd.out.mono (by first | omega | (simp; done) | (simp; omega)))).trans (HBwe.out.mono (by first | omega | (simp; done) | (simp; omega)))).trans (HBwf.out.mono (by first | omega | (simp; done) | (simp; omega)))).trans (HBwg.out.mono (by first | omega | (simp; done) | (simp; omega))))⟩
  

end Go.Proofs.YtnillajhhimeiaaDoor
