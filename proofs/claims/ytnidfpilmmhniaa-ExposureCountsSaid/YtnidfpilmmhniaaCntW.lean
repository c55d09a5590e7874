/- The walk of ExposureCounts. -/
import Derived.Test.YtnidfpilmmhniaaExpE
import Derived.Test.YtnidfpilmmhniaaExpB
namespace Go.Proofs.Ytnidfpilmmhniaa
open Go.RowKit

set_option maxHeartbeats 8000000 in
theorem counts_walk {N : Nat} (ua : Option Addr) (un uc : Nat) (it ct : Nat → Int) (item served : Int) (s : Bool) (a d : Option Addr) (na ca nd cd : Nat) (slack : Int) (w : World) (mn md : Nat) (hN : N ≤ w.heap.size) (hu : Us w ua un uc it ct) (ha : Nt N w a na ca mn) (hd : Nt N w d nd cd md) :
    Calls Try.prog 6 #[.slice ua un uc, .int .i64 item, .int .i64 served, .agg #[.bool s, .slice a na ca, .slice d nd cd], .int .i64 slack] w fun e w' => e = .returned (.bool true) ∧ Below w.heap.size w w' := by
  by_cases hl : 20 < na ∨ 20 < nd
  · have HLG := Lib.hid (show (decide (20 < na) || decide (20 < nd)) = true by simpa using hl)
    clear ha hd hl hu
    go_enter Try.func6, Try.ntmps6
    go_wp2_with fail
    refine (large_any _ _ _ _ _ _ _ _).mono ?_
    rw [HLG.out]
    rintro e wa ⟨rfl, hb⟩
    obtain ⟨hcwa, hfwa⟩ := bcell hb
    have hzwa0 : w.heap.size < wa.heap.size := by have := hb.size; (try simp at this); omega
    have HBwa := Lib.hid hb
    clear hb 
    go_wp2_with fail
    go_ret
    exact ⟨rfl, ((bel1 w _).trans (HBwa.out.mono (by first | omega | (simp; done) | (simp; omega))))⟩
  · have HLG := Lib.hid (show (decide (20 < na) || decide (20 < nd)) = false by simpa using hl)
    obtain ⟨q, hq⟩ : ∃ q, mkRat (zI s mn) md = q := ⟨_, rfl⟩
    have h : Rt N w s a na ca d nd cd q 20 := ⟨by omega, by omega, by omega, mn, md, ha, hd, hq⟩
    have H := Lib.hid (h.alloc (.cells #[.bool s, .slice a na ca, .slice d nd cd] 29))
    have HU := Lib.hid (hu.alloc (.cells #[.bool s, .slice a na ca, .slice d nd cd] 29))
    clear h hq ha hd hl hu
    obtain ⟨x, hx⟩ : ∃ x, cntN it ct item un = x := ⟨_, rfl⟩
    obtain ⟨E, hE⟩ : ∃ E, elig x served q slack = E := ⟨_, rfl⟩
    have HC := Lib.hid hx
    have HE := Lib.hid hE
    clear hE hx
    by_cases hs : 1 ≤ served
    · obtain ⟨p, hp⟩ : ∃ p, mkRat (zI (decide (x < 0) != decide (lim served < 0)) x.natAbs) (lim served).natAbs = p := ⟨_, rfl⟩
      have HP := Lib.hid hp
      clear hp
      go_enter Try.func6, Try.ntmps6
      go_wp2_with fail
      refine (large_any _ _ _ _ _ _ _ _).mono ?_
      rw [HLG.out]
      rintro e wa ⟨rfl, hb⟩
      obtain ⟨hcwa, hfwa⟩ := bcell hb
      have hzwa0 : w.heap.size < wa.heap.size := by have := hb.size; (try simp at this); omega
      have HBwa := Lib.hid hb
      clear hb 
      go_wp2_with fail
      refine (count_any ua un uc it ct item _ (HU.out.below HBwa.out)).mono ?_
      rw [HC.out]
      rintro e wb ⟨rfl, hb⟩
      obtain ⟨hcwb, hfwb⟩ := bcell hb
      have hzwb0 : w.heap.size < wb.heap.size := by have := hb.size; (try simp at this); omega
      have HBwb := Lib.hid hb
      clear hb 
      go_wp2_with fail
      refine (rate_yes (N := N) ua un uc it ct item served _ (by omega) ((HU.out.below HBwa.out).below HBwb.out) hs x HC.out p HP.out).mono ?_
      rintro e wc ⟨rx, cx, rx2, cx2, rfl, hn, hn', hb⟩
      obtain ⟨hcwc, hfwc⟩ := bcell hb
      have hzwc0 : w.heap.size < wc.heap.size := by have := hb.size; (try simp at this); omega
      have HBwc := Lib.hid hb
      have HNwc := Lib.hid hn
      have HN'wc := Lib.hid hn'
      clear hb hn hn'
      go_wp2_with fail
      refine (xrate_yes (N := N) ua un uc it ct item served _ (by simp; omega) ((((HU.out.below HBwa.out).below HBwb.out).below HBwc.out).alloc _) hs x HC.out p HP.out).mono ?_
      rintro e wd ⟨ry, cy, ry2, cy2, rfl, hn, hn', hb⟩
      obtain ⟨hcwd, hfwd⟩ := bcell hb
      have hzwd0 : w.heap.size < wd.heap.size := by have := hb.size; (try simp at this); omega
      have hzwd1 : wc.heap.size < wd.heap.size := by have := hb.size; (try simp at this); omega
      have HBwd := Lib.hid hb
      have HNwd := Lib.hid hn
      have HN'wd := Lib.hid hn'
      clear hb hn hn'
      have ka0 : wa.cell? ⟨w.heap.size, 0, none⟩ = some (.bool s) := (HBwa.out.cell (p := ⟨w.heap.size, 0, none⟩) (by simp)).trans (by go_simp)
      have ka1 : wa.cell? ⟨w.heap.size, 1, none⟩ = some (.slice a na ca) := (HBwa.out.cell (p := ⟨w.heap.size, 1, none⟩) (by simp)).trans (by go_simp)
      have ka2 : wa.cell? ⟨w.heap.size, 2, none⟩ = some (.slice d nd cd) := (HBwa.out.cell (p := ⟨w.heap.size, 2, none⟩) (by simp)).trans (by go_simp)
      have kb0 : wb.cell? ⟨w.heap.size, 0, none⟩ = some (.bool s) := cell_mono ka0 HBwb.out
      have kb1 : wb.cell? ⟨w.heap.size, 1, none⟩ = some (.slice a na ca) := cell_mono ka1 HBwb.out
      have kb2 : wb.cell? ⟨w.heap.size, 2, none⟩ = some (.slice d nd cd) := cell_mono ka2 HBwb.out
      have kc0 : wc.cell? ⟨w.heap.size, 0, none⟩ = some (.bool s) := cell_mono kb0 HBwc.out
      have kc1 : wc.cell? ⟨w.heap.size, 1, none⟩ = some (.slice a na ca) := cell_mono kb1 HBwc.out
      have kc2 : wc.cell? ⟨w.heap.size, 2, none⟩ = some (.slice d nd cd) := cell_mono kb2 HBwc.out
      have kd0 : wd.cell? ⟨w.heap.size, 0, none⟩ = some (.bool s) := cell_mono kc0 (bel_of_alloc HBwd.out)
      have kd1 : wd.cell? ⟨w.heap.size, 1, none⟩ = some (.slice a na ca) := cell_mono kc1 (bel_of_alloc HBwd.out)
      have kd2 : wd.cell? ⟨w.heap.size, 2, none⟩ = some (.slice d nd cd) := cell_mono kc2 (bel_of_alloc HBwd.out)
      clear ka0 ka1 ka2 kb0 kb1 kb2 kc0 kc1 kc2
      go_wp2_with fail
      go_region_held3 (fun w' => w'.cell? ⟨w.heap.size, 0, none⟩ = some (.bool s) ∧ w'.cell? ⟨w.heap.size, 1, none⟩ = some (.slice a na ca) ∧ w'.cell? ⟨w.heap.size, 2, none⟩ = some (.slice d nd cd) ∧ w'.cell? ⟨wc.heap.size, 0, none⟩ = some (.bool (decide (p.num < 0))) ∧ w'.cell? ⟨wc.heap.size, 1, none⟩ = some (.slice rx (nlen p.num.natAbs) cx) ∧ w'.cell? ⟨wc.heap.size, 2, none⟩ = some (.slice rx2 (nlen p.den) cx2) ∧ w'.cell? ⟨wd.heap.size, 0, none⟩ = some (.bool (decide (p.num < 0))) ∧ w'.cell? ⟨wd.heap.size, 1, none⟩ = some (.slice ry (nlen p.num.natAbs) cy) ∧ w'.cell? ⟨wd.heap.size, 2, none⟩ = some (.slice ry2 (nlen p.den) cy2))
          (first | (go_keep; done) | ((try dsimp only); (repeat' apply And.intro) <;> (first | (go_keep; done) | (exact cell_keep_alloc_drew (by first | omega | (simp; omega)) (by first | assumption | go_simp)) | (exact cell_keep_alloc (by first | omega | (simp; omega)) (by first | assumption | go_simp)) | (rw [cell_set2 _ _ _ _ _ _ _ _ (by omega)]; assumption) | (rw [cell_set3 _ _ _ _ _ _ _ _ _ _ (by omega)]; assumption))))
          (first
            | (go_at_call 24; refine (xcount_any ua un uc it ct item _ (by exact (((((HU.out.below HBwa.out).below HBwb.out).below HBwc.out).below (bel_of_alloc HBwd.out)).alloc (.cells #[.bool (decide (p.num < 0)), .slice ry (nlen p.num.natAbs) cy, .slice ry2 (nlen p.den) cy2] 29)))).mono ?_; rw [HC.out]; rintro e w' ⟨rfl, rfl⟩)
            | (go_at_call 25; refine (same37_any (N := N) _ _ _ _ _ _ p.num.natAbs _ p.den _ _ _ _ _ (by exact (HNwc.out.below (bel_of_alloc HBwd.out)).alloc (.cells #[.bool (decide (p.num < 0)), .slice ry (nlen p.num.natAbs) cy, .slice ry2 (nlen p.den) cy2] 29)) (by exact (HN'wc.out.below (bel_of_alloc HBwd.out)).alloc (.cells #[.bool (decide (p.num < 0)), .slice ry (nlen p.num.natAbs) cy, .slice ry2 (nlen p.den) cy2] 29)) (by exact HNwd.out.alloc (.cells #[.bool (decide (p.num < 0)), .slice ry (nlen p.num.natAbs) cy, .slice ry2 (nlen p.den) cy2] 29)) (by exact HN'wd.out.alloc (.cells #[.bool (decide (p.num < 0)), .slice ry (nlen p.num.natAbs) cy, .slice ry2 (nlen p.den) cy2] 29))).mono ?_; rintro e we ⟨rfl, hb⟩; have kwe0 : we.cell? ⟨w.heap.size, 0, none⟩ = some (.bool s) := (hb.cell (p := ⟨w.heap.size, 0, none⟩) (by first | (simp; done) | (simp; omega))).trans (by first | exact k0 | go_simp); have kwe1 : we.cell? ⟨w.heap.size, 1, none⟩ = some (.slice a na ca) := (hb.cell (p := ⟨w.heap.size, 1, none⟩) (by first | (simp; done) | (simp; omega))).trans (by first | exact k1 | go_simp); have kwe2 : we.cell? ⟨w.heap.size, 2, none⟩ = some (.slice d nd cd) := (hb.cell (p := ⟨w.heap.size, 2, none⟩) (by first | (simp; done) | (simp; omega))).trans (by first | exact k2 | go_simp); have kwe3 : we.cell? ⟨wc.heap.size, 0, none⟩ = some (.bool (decide (p.num < 0))) := (hb.cell (p := ⟨wc.heap.size, 0, none⟩) (by first | (simp; done) | (simp; omega))).trans (by first | exact k3 | go_simp); have kwe4 : we.cell? ⟨wc.heap.size, 1, none⟩ = some (.slice rx (nlen p.num.natAbs) cx) := (hb.cell (p := ⟨wc.heap.size, 1, none⟩) (by first | (simp; done) | (simp; omega))).trans (by first | exact k4 | go_simp); have kwe5 : we.cell? ⟨wc.heap.size, 2, none⟩ = some (.slice rx2 (nlen p.den) cx2) := (hb.cell (p := ⟨wc.heap.size, 2, none⟩) (by first | (simp; done) | (simp; omega))).trans (by first | exact k5 | go_simp); have kwe6 : we.cell? ⟨wd.heap.size, 0, none⟩ = some (.bool (decide (p.num < 0))) := (hb.cell (p := ⟨wd.heap.size, 0, none⟩) (by first | (simp; done) | (simp; omega))).trans (by first | exact k6 | go_simp); have kwe7 : we.cell? ⟨wd.heap.size, 1, none⟩ = some (.slice ry (nlen p.num.natAbs) cy) := (hb.cell (p := ⟨wd.heap.size, 1, none⟩) (by first | (simp; done) | (simp; omega))).trans (by first | exact k7 | go_simp); have kwe8 : we.cell? ⟨wd.heap.size, 2, none⟩ = some (.slice ry2 (nlen p.den) cy2) := (hb.cell (p := ⟨wd.heap.size, 2, none⟩) (by first | (simp; done) | (simp; omega))).trans (by first | exact k8 | go_simp); have hzwe0 : w.heap.size < we.heap.size := (by have := hb.size; (try simp at this); omega); have hzwe1 : wc.heap.size < we.heap.size := (by have := hb.size; (try simp at this); omega); have hzwe2 : wd.heap.size < we.heap.size := (by have := hb.size; (try simp at this); omega); obtain ⟨hcwe, hfwe⟩ := bcell hb; have HBwe := Lib.hid hb; clear hb )
            | (go_at_call 17; refine (elig_any (N := N) _ _ _ _ _ _ _ _ _ _ 20 q _ (by omega) (by exact (((((H.out.below HBwa.out).below HBwb.out).below HBwc.out).below (bel_of_alloc HBwd.out)).alloc (.cells #[.bool (decide (p.num < 0)), .slice ry (nlen p.num.natAbs) cy, .slice ry2 (nlen p.den) cy2] 29)).below (bel_of_drew HBwe.out)) (by omega)).mono ?_; rw [HE.out]; rintro e wf ⟨rfl, hb⟩; have kwf0 : wf.cell? ⟨w.heap.size, 0, none⟩ = some (.bool s) := (hb.cell (p := ⟨w.heap.size, 0, none⟩) (by omega)).trans kwe0; have kwf1 : wf.cell? ⟨w.heap.size, 1, none⟩ = some (.slice a na ca) := (hb.cell (p := ⟨w.heap.size, 1, none⟩) (by omega)).trans kwe1; have kwf2 : wf.cell? ⟨w.heap.size, 2, none⟩ = some (.slice d nd cd) := (hb.cell (p := ⟨w.heap.size, 2, none⟩) (by omega)).trans kwe2; have kwf3 : wf.cell? ⟨wc.heap.size, 0, none⟩ = some (.bool (decide (p.num < 0))) := (hb.cell (p := ⟨wc.heap.size, 0, none⟩) (by omega)).trans kwe3; have kwf4 : wf.cell? ⟨wc.heap.size, 1, none⟩ = some (.slice rx (nlen p.num.natAbs) cx) := (hb.cell (p := ⟨wc.heap.size, 1, none⟩) (by omega)).trans kwe4; have kwf5 : wf.cell? ⟨wc.heap.size, 2, none⟩ = some (.slice rx2 (nlen p.den) cx2) := (hb.cell (p := ⟨wc.heap.size, 2, none⟩) (by omega)).trans kwe5; have kwf6 : wf.cell? ⟨wd.heap.size, 0, none⟩ = some (.bool (decide (p.num < 0))) := (hb.cell (p := ⟨wd.heap.size, 0, none⟩) (by omega)).trans kwe6; have kwf7 : wf.cell? ⟨wd.heap.size, 1, none⟩ = some (.slice ry (nlen p.num.natAbs) cy) := (hb.cell (p := ⟨wd.heap.size, 1, none⟩) (by omega)).trans kwe7; have kwf8 : wf.cell? ⟨wd.heap.size, 2, none⟩ = some (.slice ry2 (nlen p.den) cy2) := (hb.cell (p := ⟨wd.heap.size, 2, none⟩) (by omega)).trans kwe8; have hzwf0 : w.heap.size < wf.heap.size := (by have := hb.size; (try simp at this); omega); have hzwf1 : wc.heap.size < wf.heap.size := (by have := hb.size; (try simp at this); omega); have hzwf2 : wd.heap.size < wf.heap.size := (by have := hb.size; (try simp at this); omega); obtain ⟨hcwf, hfwf⟩ := bcell hb; have HBwf := Lib.hid hb; clear hb )
            | (go_at_call 18; refine (xelig_any (N := N) _ _ _ _ _ _ _ _ _ _ 20 q _ (by omega) (by exact ((((((H.out.below HBwa.out).below HBwb.out).below HBwc.out).below (bel_of_alloc HBwd.out)).alloc (.cells #[.bool (decide (p.num < 0)), .slice ry (nlen p.num.natAbs) cy, .slice ry2 (nlen p.den) cy2] 29)).below (bel_of_drew HBwe.out)).below HBwf.out) (by omega)).mono ?_; rw [HE.out]; rintro e wg ⟨rfl, hb⟩; have kwg0 : wg.cell? ⟨w.heap.size, 0, none⟩ = some (.bool s) := (hb.cell (p := ⟨w.heap.size, 0, none⟩) (by omega)).trans kwf0; have kwg1 : wg.cell? ⟨w.heap.size, 1, none⟩ = some (.slice a na ca) := (hb.cell (p := ⟨w.heap.size, 1, none⟩) (by omega)).trans kwf1; have kwg2 : wg.cell? ⟨w.heap.size, 2, none⟩ = some (.slice d nd cd) := (hb.cell (p := ⟨w.heap.size, 2, none⟩) (by omega)).trans kwf2; have kwg3 : wg.cell? ⟨wc.heap.size, 0, none⟩ = some (.bool (decide (p.num < 0))) := (hb.cell (p := ⟨wc.heap.size, 0, none⟩) (by omega)).trans kwf3; have kwg4 : wg.cell? ⟨wc.heap.size, 1, none⟩ = some (.slice rx (nlen p.num.natAbs) cx) := (hb.cell (p := ⟨wc.heap.size, 1, none⟩) (by omega)).trans kwf4; have kwg5 : wg.cell? ⟨wc.heap.size, 2, none⟩ = some (.slice rx2 (nlen p.den) cx2) := (hb.cell (p := ⟨wc.heap.size, 2, none⟩) (by omega)).trans kwf5; have kwg6 : wg.cell? ⟨wd.heap.size, 0, none⟩ = some (.bool (decide (p.num < 0))) := (hb.cell (p := ⟨wd.heap.size, 0, none⟩) (by omega)).trans kwf6; have kwg7 : wg.cell? ⟨wd.heap.size, 1, none⟩ = some (.slice ry (nlen p.num.natAbs) cy) := (hb.cell (p := ⟨wd.heap.size, 1, none⟩) (by omega)).trans kwf7; have kwg8 : wg.cell? ⟨wd.heap.size, 2, none⟩ = some (.slice ry2 (nlen p.den) cy2) := (hb.cell (p := ⟨wd.heap.size, 2, none⟩) (by omega)).trans kwf8; have hzwg0 : w.heap.size < wg.heap.size := (by have := hb.size; (try simp at this); omega); have hzwg1 : wc.heap.size < wg.heap.size := (by have := hb.size; (try simp at this); omega); have hzwg2 : wd.heap.size < wg.heap.size := (by have := hb.size; (try simp at this); omega); obtain ⟨hcwg, hfwg⟩ := bcell hb; have HBwg := Lib.hid hb; clear hb ))
      go_wp2_with fail
      go_ret
      exact ⟨by simp, ((((((((bel1 w _).trans (HBwa.out.mono (by first | omega | (simp; done) | (simp; omega)))).trans (HBwb.out.mono (by first | omega | (simp; done) | (simp; omega)))).trans (HBwc.out.mono (by first | omega | (simp; done) | (simp; omega)))).trans ((bel_of_alloc HBwd.out).mono (by first | omega | (simp; done) | (simp; omega)))).trans ((bel_of_alloc (bel_of_drew HBwe.out)).mono (by first | omega | (simp; done) | (simp; omega)))).trans (HBwf.out.mono (by first | omega | (simp; done) | (simp; omega)))).trans (HBwg.out.mono (by first | omega | (simp; done) | (simp; omega))))⟩
    · replace hs : served < 1 := by omega
      obtain ⟨p, hp⟩ : ∃ p : Rat, ((0 : Int) : Rat) = p := ⟨_, rfl⟩
      have HP := Lib.hid hp
      clear hp
      go_enter Try.func6, Try.ntmps6
      go_wp2_with fail
      refine (large_any _ _ _ _ _ _ _ _).mono ?_
      rw [HLG.out]
      rintro e wa ⟨rfl, hb⟩
      obtain ⟨hcwa, hfwa⟩ := bcell hb
      have hzwa0 : w.heap.size < wa.heap.size := by have := hb.size; (try simp at this); omega
      have HBwa := Lib.hid hb
      clear hb 
      go_wp2_with fail
      refine (count_any ua un uc it ct item _ (HU.out.below HBwa.out)).mono ?_
      rw [HC.out]
      rintro e wb ⟨rfl, hb⟩
      obtain ⟨hcwb, hfwb⟩ := bcell hb
      have hzwb0 : w.heap.size < wb.heap.size := by have := hb.size; (try simp at this); omega
      have HBwb := Lib.hid hb
      clear hb 
      go_wp2_with fail
      refine (rate_no (N := N) _ item served _ (by omega) hs p HP.out).mono ?_
      rintro e wc ⟨rx, cx, rx2, cx2, rfl, hn, hn', hb⟩
      obtain ⟨hcwc, hfwc⟩ := bcell hb
      have hzwc0 : w.heap.size < wc.heap.size := by have := hb.size; (try simp at this); omega
      have HBwc := Lib.hid hb
      have HNwc := Lib.hid hn
      have HN'wc := Lib.hid hn'
      clear hb hn hn'
      go_wp2_with fail
      refine (xrate_no (N := N) _ item served _ (by simp; omega) hs p HP.out).mono ?_
      rintro e wd ⟨ry, cy, ry2, cy2, rfl, hn, hn', hb⟩
      obtain ⟨hcwd, hfwd⟩ := bcell hb
      have hzwd0 : w.heap.size < wd.heap.size := by have := hb.size; (try simp at this); omega
      have hzwd1 : wc.heap.size < wd.heap.size := by have := hb.size; (try simp at this); omega
      have HBwd := Lib.hid hb
      have HNwd := Lib.hid hn
      have HN'wd := Lib.hid hn'
      clear hb hn hn'
      have ka0 : wa.cell? ⟨w.heap.size, 0, none⟩ = some (.bool s) := (HBwa.out.cell (p := ⟨w.heap.size, 0, none⟩) (by simp)).trans (by go_simp)
      have ka1 : wa.cell? ⟨w.heap.size, 1, none⟩ = some (.slice a na ca) := (HBwa.out.cell (p := ⟨w.heap.size, 1, none⟩) (by simp)).trans (by go_simp)
      have ka2 : wa.cell? ⟨w.heap.size, 2, none⟩ = some (.slice d nd cd) := (HBwa.out.cell (p := ⟨w.heap.size, 2, none⟩) (by simp)).trans (by go_simp)
      have kb0 : wb.cell? ⟨w.heap.size, 0, none⟩ = some (.bool s) := cell_mono ka0 HBwb.out
      have kb1 : wb.cell? ⟨w.heap.size, 1, none⟩ = some (.slice a na ca) := cell_mono ka1 HBwb.out
      have kb2 : wb.cell? ⟨w.heap.size, 2, none⟩ = some (.slice d nd cd) := cell_mono ka2 HBwb.out
      have kc0 : wc.cell? ⟨w.heap.size, 0, none⟩ = some (.bool s) := cell_mono kb0 HBwc.out
      have kc1 : wc.cell? ⟨w.heap.size, 1, none⟩ = some (.slice a na ca) := cell_mono kb1 HBwc.out
      have kc2 : wc.cell? ⟨w.heap.size, 2, none⟩ = some (.slice d nd cd) := cell_mono kb2 HBwc.out
      have kd0 : wd.cell? ⟨w.heap.size, 0, none⟩ = some (.bool s) := cell_mono kc0 (bel_of_alloc HBwd.out)
      have kd1 : wd.cell? ⟨w.heap.size, 1, none⟩ = some (.slice a na ca) := cell_mono kc1 (bel_of_alloc HBwd.out)
      have kd2 : wd.cell? ⟨w.heap.size, 2, none⟩ = some (.slice d nd cd) := cell_mono kc2 (bel_of_alloc HBwd.out)
      clear ka0 ka1 ka2 kb0 kb1 kb2 kc0 kc1 kc2
      go_wp2_with fail
      go_region_held3 (fun w' => w'.cell? ⟨w.heap.size, 0, none⟩ = some (.bool s) ∧ w'.cell? ⟨w.heap.size, 1, none⟩ = some (.slice a na ca) ∧ w'.cell? ⟨w.heap.size, 2, none⟩ = some (.slice d nd cd) ∧ w'.cell? ⟨wc.heap.size, 0, none⟩ = some (.bool (decide (p.num < 0))) ∧ w'.cell? ⟨wc.heap.size, 1, none⟩ = some (.slice rx (nlen p.num.natAbs) cx) ∧ w'.cell? ⟨wc.heap.size, 2, none⟩ = some (.slice rx2 (nlen p.den) cx2) ∧ w'.cell? ⟨wd.heap.size, 0, none⟩ = some (.bool (decide (p.num < 0))) ∧ w'.cell? ⟨wd.heap.size, 1, none⟩ = some (.slice ry (nlen p.num.natAbs) cy) ∧ w'.cell? ⟨wd.heap.size, 2, none⟩ = some (.slice ry2 (nlen p.den) cy2))
          (first | (go_keep; done) | ((try dsimp only); (repeat' apply And.intro) <;> (first | (go_keep; done) | (exact cell_keep_alloc_drew (by first | omega | (simp; omega)) (by first | assumption | go_simp)) | (exact cell_keep_alloc (by first | omega | (simp; omega)) (by first | assumption | go_simp)) | (rw [cell_set2 _ _ _ _ _ _ _ _ (by omega)]; assumption) | (rw [cell_set3 _ _ _ _ _ _ _ _ _ _ (by omega)]; assumption))))
          (first
            | (go_at_call 24; refine (xcount_any ua un uc it ct item _ (by exact (((((HU.out.below HBwa.out).below HBwb.out).below HBwc.out).below (bel_of_alloc HBwd.out)).alloc (.cells #[.bool (decide (p.num < 0)), .slice ry (nlen p.num.natAbs) cy, .slice ry2 (nlen p.den) cy2] 29)))).mono ?_; rw [HC.out]; rintro e w' ⟨rfl, rfl⟩)
            | (go_at_call 25; refine (same37_any (N := N) _ _ _ _ _ _ p.num.natAbs _ p.den _ _ _ _ _ (by exact (HNwc.out.below (bel_of_alloc HBwd.out)).alloc (.cells #[.bool (decide (p.num < 0)), .slice ry (nlen p.num.natAbs) cy, .slice ry2 (nlen p.den) cy2] 29)) (by exact (HN'wc.out.below (bel_of_alloc HBwd.out)).alloc (.cells #[.bool (decide (p.num < 0)), .slice ry (nlen p.num.natAbs) cy, .slice ry2 (nlen p.den) cy2] 29)) (by exact HNwd.out.alloc (.cells #[.bool (decide (p.num < 0)), .slice ry (nlen p.num.natAbs) cy, .slice ry2 (nlen p.den) cy2] 29)) (by exact HN'wd.out.alloc (.cells #[.bool (decide (p.num < 0)), .slice ry (nlen p.num.natAbs) cy, .slice ry2 (nlen p.den) cy2] 29))).mono ?_; rintro e we ⟨rfl, hb⟩; have kwe0 : we.cell? ⟨w.heap.size, 0, none⟩ = some (.bool s) := (hb.cell (p := ⟨w.heap.size, 0, none⟩) (by first | (simp; done) | (simp; omega))).trans (by first | exact k0 | go_simp); have kwe1 : we.cell? ⟨w.heap.size, 1, none⟩ = some (.slice a na ca) := (hb.cell (p := ⟨w.heap.size, 1, none⟩) (by first | (simp; done) | (simp; omega))).trans (by first | exact k1 | go_simp); have kwe2 : we.cell? ⟨w.heap.size, 2, none⟩ = some (.slice d nd cd) := (hb.cell (p := ⟨w.heap.size, 2, none⟩) (by first | (simp; done) | (simp; omega))).trans (by first | exact k2 | go_simp); have kwe3 : we.cell? ⟨wc.heap.size, 0, none⟩ = some (.bool (decide (p.num < 0))) := (hb.cell (p := ⟨wc.heap.size, 0, none⟩) (by first | (simp; done) | (simp; omega))).trans (by first | exact k3 | go_simp); have kwe4 : we.cell? ⟨wc.heap.size, 1, none⟩ = some (.slice rx (nlen p.num.natAbs) cx) := (hb.cell (p := ⟨wc.heap.size, 1, none⟩) (by first | (simp; done) | (simp; omega))).trans (by first | exact k4 | go_simp); have kwe5 : we.cell? ⟨wc.heap.size, 2, none⟩ = some (.slice rx2 (nlen p.den) cx2) := (hb.cell (p := ⟨wc.heap.size, 2, none⟩) (by first | (simp; done) | (simp; omega))).trans (by first | exact k5 | go_simp); have kwe6 : we.cell? ⟨wd.heap.size, 0, none⟩ = some (.bool (decide (p.num < 0))) := (hb.cell (p := ⟨wd.heap.size, 0, none⟩) (by first | (simp; done) | (simp; omega))).trans (by first | exact k6 | go_simp); have kwe7 : we.cell? ⟨wd.heap.size, 1, none⟩ = some (.slice ry (nlen p.num.natAbs) cy) := (hb.cell (p := ⟨wd.heap.size, 1, none⟩) (by first | (simp; done) | (simp; omega))).trans (by first | exact k7 | go_simp); have kwe8 : we.cell? ⟨wd.heap.size, 2, none⟩ = some (.slice ry2 (nlen p.den) cy2) := (hb.cell (p := ⟨wd.heap.size, 2, none⟩) (by first | (simp; done) | (simp; omega))).trans (by first | exact k8 | go_simp); have hzwe0 : w.heap.size < we.heap.size := (by have := hb.size; (try simp at this); omega); have hzwe1 : wc.heap.size < we.heap.size := (by have := hb.size; (try simp at this); omega); have hzwe2 : wd.heap.size < we.heap.size := (by have := hb.size; (try simp at this); omega); obtain ⟨hcwe, hfwe⟩ := bcell hb; have HBwe := Lib.hid hb; clear hb )
            | (go_at_call 17; refine (elig_any (N := N) _ _ _ _ _ _ _ _ _ _ 20 q _ (by omega) (by exact (((((H.out.below HBwa.out).below HBwb.out).below HBwc.out).below (bel_of_alloc HBwd.out)).alloc (.cells #[.bool (decide (p.num < 0)), .slice ry (nlen p.num.natAbs) cy, .slice ry2 (nlen p.den) cy2] 29)).below (bel_of_drew HBwe.out)) (by omega)).mono ?_; rw [HE.out]; rintro e wf ⟨rfl, hb⟩; have kwf0 : wf.cell? ⟨w.heap.size, 0, none⟩ = some (.bool s) := (hb.cell (p := ⟨w.heap.size, 0, none⟩) (by omega)).trans kwe0; have kwf1 : wf.cell? ⟨w.heap.size, 1, none⟩ = some (.slice a na ca) := (hb.cell (p := ⟨w.heap.size, 1, none⟩) (by omega)).trans kwe1; have kwf2 : wf.cell? ⟨w.heap.size, 2, none⟩ = some (.slice d nd cd) := (hb.cell (p := ⟨w.heap.size, 2, none⟩) (by omega)).trans kwe2; have kwf3 : wf.cell? ⟨wc.heap.size, 0, none⟩ = some (.bool (decide (p.num < 0))) := (hb.cell (p := ⟨wc.heap.size, 0, none⟩) (by omega)).trans kwe3; have kwf4 : wf.cell? ⟨wc.heap.size, 1, none⟩ = some (.slice rx (nlen p.num.natAbs) cx) := (hb.cell (p := ⟨wc.heap.size, 1, none⟩) (by omega)).trans kwe4; have kwf5 : wf.cell? ⟨wc.heap.size, 2, none⟩ = some (.slice rx2 (nlen p.den) cx2) := (hb.cell (p := ⟨wc.heap.size, 2, none⟩) (by omega)).trans kwe5; have kwf6 : wf.cell? ⟨wd.heap.size, 0, none⟩ = some (.bool (decide (p.num < 0))) := (hb.cell (p := ⟨wd.heap.size, 0, none⟩) (by omega)).trans kwe6; have kwf7 : wf.cell? ⟨wd.heap.size, 1, none⟩ = some (.slice ry (nlen p.num.natAbs) cy) := (hb.cell (p := ⟨wd.heap.size, 1, none⟩) (by omega)).trans kwe7; have kwf8 : wf.cell? ⟨wd.heap.size, 2, none⟩ = some (.slice ry2 (nlen p.den) cy2) := (hb.cell (p := ⟨wd.heap.size, 2, none⟩) (by omega)).trans kwe8; have hzwf0 : w.heap.size < wf.heap.size := (by have := hb.size; (try simp at this); omega); have hzwf1 : wc.heap.size < wf.heap.size := (by have := hb.size; (try simp at this); omega); have hzwf2 : wd.heap.size < wf.heap.size := (by have := hb.size; (try simp at this); omega); obtain ⟨hcwf, hfwf⟩ := bcell hb; have HBwf := Lib.hid hb; clear hb )
            | (go_at_call 18; refine (xelig_any (N := N) _ _ _ _ _ _ _ _ _ _ 20 q _ (by omega) (by exact ((((((H.out.below HBwa.out).below HBwb.out).below HBwc.out).below (bel_of_alloc HBwd.out)).alloc (.cells #[.bool (decide (p.num < 0)), .slice ry (nlen p.num.natAbs) cy, .slice ry2 (nlen p.den) cy2] 29)).below (bel_of_drew HBwe.out)).below HBwf.out) (by omega)).mono ?_; rw [HE.out]; rintro e wg ⟨rfl, hb⟩; have kwg0 : wg.cell? ⟨w.heap.size, 0, none⟩ = some (.bool s) := (hb.cell (p := ⟨w.heap.size, 0, none⟩) (by omega)).trans kwf0; have kwg1 : wg.cell? ⟨w.heap.size, 1, none⟩ = some (.slice a na ca) := (hb.cell (p := ⟨w.heap.size, 1, none⟩) (by omega)).trans kwf1; have kwg2 : wg.cell? ⟨w.heap.size, 2, none⟩ = some (.slice d nd cd) := (hb.cell (p := ⟨w.heap.size, 2, none⟩) (by omega)).trans kwf2; have kwg3 : wg.cell? ⟨wc.heap.size, 0, none⟩ = some (.bool (decide (p.num < 0))) := (hb.cell (p := ⟨wc.heap.size, 0, none⟩) (by omega)).trans kwf3; have kwg4 : wg.cell? ⟨wc.heap.size, 1, none⟩ = some (.slice rx (nlen p.num.natAbs) cx) := (hb.cell (p := ⟨wc.heap.size, 1, none⟩) (by omega)).trans kwf4; have kwg5 : wg.cell? ⟨wc.heap.size, 2, none⟩ = some (.slice rx2 (nlen p.den) cx2) := (hb.cell (p := ⟨wc.heap.size, 2, none⟩) (by omega)).trans kwf5; have kwg6 : wg.cell? ⟨wd.heap.size, 0, none⟩ = some (.bool (decide (p.num < 0))) := (hb.cell (p := ⟨wd.heap.size, 0, none⟩) (by omega)).trans kwf6; have kwg7 : wg.cell? ⟨wd.heap.size, 1, none⟩ = some (.slice ry (nlen p.num.natAbs) cy) := (hb.cell (p := ⟨wd.heap.size, 1, none⟩) (by omega)).trans kwf7; have kwg8 : wg.cell? ⟨wd.heap.size, 2, none⟩ = some (.slice ry2 (nlen p.den) cy2) := (hb.cell (p := ⟨wd.heap.size, 2, none⟩) (by omega)).trans kwf8; have hzwg0 : w.heap.size < wg.heap.size := (by have := hb.size; (try simp at this); omega); have hzwg1 : wc.heap.size < wg.heap.size := (by have := hb.size; (try simp at this); omega); have hzwg2 : wd.heap.size < wg.heap.size := (by have := hb.size; (try simp at this); omega); obtain ⟨hcwg, hfwg⟩ := bcell hb; have HBwg := Lib.hid hb; clear hb ))
      go_wp2_with fail
      go_ret
      exact ⟨by simp, ((((((((bel1 w _).trans (HBwa.out.mono (by first | omega | (simp; done) | (simp; omega)))).trans (HBwb.out.mono (by first | omega | (simp; done) | (simp; omega)))).trans (HBwc.out.mono (by first | omega | (simp; done) | (simp; omega)))).trans ((bel_of_alloc HBwd.out).mono (by first | omega | (simp; done) | (simp; omega)))).trans ((bel_of_alloc (bel_of_drew HBwe.out)).mono (by first | omega | (simp; done) | (simp; omega)))).trans (HBwf.out.mono (by first | omega | (simp; done) | (simp; omega)))).trans (HBwg.out.mono (by first | omega | (simp; done) | (simp; omega))))⟩

end Go.Proofs.Ytnidfpilmmhniaa
