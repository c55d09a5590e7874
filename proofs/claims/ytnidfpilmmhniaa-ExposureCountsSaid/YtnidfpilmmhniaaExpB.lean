/- The walk of law37.large and of ExposureMonotone. -/
import Derived.Test.YtnidfpilmmhniaaExpA
namespace Go.Proofs.Ytnidfpilmmhniaa
open Go.RowKit

set_option maxHeartbeats 1000000 in
theorem large_any (s : Bool) (a d : Option Addr) (na ca nd cd : Nat) (w : World) : Calls Try.prog 14 #[.agg #[.bool s, .slice a na ca, .slice d nd cd]] w fun e w' => e = .returned (.bool (decide (20 < na) || decide (20 < nd))) ∧ Below w.heap.size w w' := by
  by_cases h1 : 20 < na
  · have hd : (decide (20 < na) || decide (20 < nd)) = true := by simp [h1]
    rw [hd]
    go_enter Try.func14, Try.ntmps14
    go_wp2_with fail
    go_ret
    exact ⟨rfl, bel1 _ _⟩
  · have hd : (decide (20 < na) || decide (20 < nd)) = decide (20 < nd) := by simp [h1]
    rw [hd]
    go_enter Try.func14, Try.ntmps14
    go_wp2_with fail
    go_ret
    have h2 : ¬ ((20 : Int) < (na : Int)) := by omega
    have h3 : ((20 : Int) < (nd : Int)) ↔ 20 < nd := by omega
    exact ⟨by simp [h2, h3], bel1 _ _⟩

theorem lim_id (n : Int) (h0 : 0 ≤ n) (h1 : n ≤ 1000000) : lim n = n := by unfold lim; omega
theorem elig_one (count : Int) (h0 : 0 ≤ count) (h1 : count ≤ 9999) (p : Rat) (hp : ((1 : Int) : Rat) = p) : elig count count p 0 = true := by
  unfold elig
  rw [lim_id count h0 (by omega), lim_id 0 (by omega) (by omega), ← hp]
  apply decide_eq_true
  have : ((1 : Int) : Rat) * ((count + 1 + 0 : Int) : Rat) = ((count + 1 : Int) : Rat) := by rw [← Rat.intCast_mul]; congr 1; omega
  rw [this]; exact Rat.le_refl
theorem elig_two (count : Int) (h0 : 0 ≤ count) (h1 : count ≤ 9999) (p : Rat) (hp : ((1 : Int) : Rat) = p) : elig (count + 1) count p 0 = false := by
  unfold elig
  rw [lim_id count h0 (by omega), lim_id (count + 1) (by omega) (by omega), lim_id 0 (by omega) (by omega), ← hp]
  apply decide_eq_false
  have : ((1 : Int) : Rat) * ((count + 1 + 0 : Int) : Rat) = ((count + 1 : Int) : Rat) := by rw [← Rat.intCast_mul]; congr 1; omega
  rw [this, Rat.intCast_le_intCast]; omega
theorem elig_mono (count served slack less more : Int) (q : Rat) (hq : 0 ≤ q) (c0 : 0 ≤ count) (c1 : 0 ≤ served) (c2 : 0 ≤ slack) (c3 : count ≤ 9999) (c4 : served ≤ 9999) (c5 : slack ≤ 9999) (c6 : 0 ≤ less) (c7 : 0 ≤ more) (c9 : more ≤ 9999) (h : elig count served q slack = true) :
    elig (count - less) served q slack = true ∧ elig count (served + more) q slack = true ∧ elig count served q (slack + more) = true := by
  unfold elig at *
  have h := of_decide_eq_true h
  have up : ∀ x y : Int, x ≤ y → q * ((x : Int) : Rat) ≤ q * ((y : Int) : Rat) := fun x y hxy => Rat.mul_le_mul_of_nonneg_left (Rat.intCast_le_intCast.2 hxy) hq
  refine ⟨decide_eq_true (Rat.le_trans (Rat.intCast_le_intCast.2 ?_) h), decide_eq_true (Rat.le_trans h (up _ _ ?_)), decide_eq_true (Rat.le_trans h (up _ _ ?_))⟩ <;> unfold lim <;> omega

set_option maxHeartbeats 4000000 in
theorem mono_walk {N : Nat} (count served : Int) (s : Bool) (a d : Option Addr) (na ca nd cd : Nat) (slack less more : Int) (w : World) (mn md : Nat) (hN : N ≤ w.heap.size) (ha : Nt N w a na ca mn) (hd : Nt N w d nd cd md) :
    Calls Try.prog 5 #[.int .i64 count, .int .i64 served, .agg #[.bool s, .slice a na ca, .slice d nd cd], .int .i64 slack, .int .i64 less, .int .i64 more] w fun e w' => e = .returned (.bool true) ∧ Below w.heap.size w w' := by
  by_cases hl : 20 < na ∨ 20 < nd
  · have HLG := Lib.hid (show (decide (20 < na) || decide (20 < nd)) = true by simpa using hl)
    clear ha hd hl
    go_enter Try.func5, Try.ntmps5
    go_wp2_with fail
    refine (large_any _ _ _ _ _ _ _ _).mono ?_
    rw [HLG.out]
    rintro e wa ⟨rfl, hb⟩
    obtain ⟨hcwa, hfwa⟩ := bcell hb
    have hzwa0 : w.heap.size < wa.heap.size := by have := hb.size; (try simp at this); omega
    have HBwa := Lib.hid hb
    clear hb 
    go_wp2_with fail
    go_ret
    exact ⟨rfl, ((bel1 w _).trans (HBwa.out.mono (by first | omega | (simp; done) | (simp; omega))))⟩
  · have HLG := Lib.hid (show (decide (20 < na) || decide (20 < nd)) = false by simpa using hl)
    obtain ⟨q, hq⟩ : ∃ q, mkRat (zI s mn) md = q := ⟨_, rfl⟩
    have h : Rt N w s a na ca d nd cd q 20 := ⟨by omega, by omega, by omega, mn, md, ha, hd, hq⟩
    have H := Lib.hid (h.alloc (.cells #[.bool s, .slice a na ca, .slice d nd cd] 29))
    clear h hq ha hd
    by_cases hC : 0 ≤ q.num ∧ 0 ≤ count ∧ 0 ≤ served ∧ 0 ≤ slack ∧ count ≤ 9999 ∧ served ≤ 9999 ∧ slack ≤ 9999 ∧ 0 ≤ less ∧ 0 ≤ more ∧ less ≤ 9999 ∧ more ≤ 9999
    · obtain ⟨hq0, c0, c1, c2, c3, c4, c5, c6, c7, c8, c9⟩ := hC
      obtain ⟨sg, hsg0⟩ : ∃ sg, q.num.sign = sg := ⟨_, rfl⟩
      have hsg : ¬ (sg < 0) := by have := Int.sign_nonneg_iff.2 hq0; omega
      have HSG := Lib.hid hsg0
      clear hsg0
      go_enter Try.func5, Try.ntmps5
      go_wp2_with fail
      refine (large_any _ _ _ _ _ _ _ _).mono ?_
      rw [HLG.out]
      rintro e wa ⟨rfl, hb⟩
      obtain ⟨hcwa, hfwa⟩ := bcell hb
      have hzwa0 : w.heap.size < wa.heap.size := by have := hb.size; (try simp at this); omega
      have HBwa := Lib.hid hb
      clear hb 
      go_wp2_with fail
      refine (rsign_any (N := N) _ _ _ _ _ _ _ 20 q _ (by omega) (H.out.below HBwa.out)).mono ?_
      rw [HSG.out]
      rintro e wb ⟨rfl, hb⟩
      obtain ⟨hcwb, hfwb⟩ := bcell hb
      have hzwb0 : w.heap.size < wb.heap.size := by have := hb.size; (try simp at this); omega
      have HBwb := Lib.hid hb
      clear hb 
      obtain ⟨p1, hp1⟩ : ∃ p : Rat, ((1 : Int) : Rat) = p := ⟨_, rfl⟩
      have HP := Lib.hid (of_one 1 p1 hp1)
      have HSZ := Lib.hid (rsz_int 1 (by decide) p1 hp1)
      have E1 := Lib.hid (elig_one count c0 c3 p1 hp1)
      have E2 := Lib.hid (elig_two count c0 c3 p1 hp1)
      clear hp1
      go_wp2_with fail
      refine (rof_any (N := N) 1 1 _ (by omega) (by omega) (by omega) (by omega) (by omega) p1 HP.out).mono ?_
      rintro e wc ⟨rx, cx, rx2, cx2, rfl, hn, hn', hb⟩
      obtain ⟨hcwc, hfwc⟩ := bcell hb
      have hzwc0 : w.heap.size < wc.heap.size := by have := hb.size; (try simp at this); omega
      have HBwc := Lib.hid hb
      have HNwc := Lib.hid hn
      have HN'wc := Lib.hid hn'
      clear hb hn hn'
      go_wp2_with fail
      refine (elig_any (N := N) _ _ _ _ _ _ _ _ _ _ 1 p1 _ (by simp; omega) ((Rt.of_norm HNwc.out HN'wc.out 1 HSZ.out).alloc _) (by omega)).mono ?_
      rw [E1.out]
      rintro e wd ⟨rfl, hb⟩
      obtain ⟨hcwd, hfwd⟩ := bcell hb
      have hzwd0 : w.heap.size < wd.heap.size := by have := hb.size; (try simp at this); omega
      have hzwd1 : wc.heap.size < wd.heap.size := by have := hb.size; (try simp at this); omega
      have HBwd := Lib.hid hb
      clear hb 
      go_wp2_with fail
      refine (elig_any (N := N) _ _ _ _ _ _ _ _ _ _ 1 p1 _ (by omega) (((Rt.of_norm HNwc.out HN'wc.out 1 HSZ.out).alloc _).below HBwd.out) (by omega)).mono ?_
      rw [E2.out]
      rintro e we ⟨rfl, hb⟩
      obtain ⟨hcwe, hfwe⟩ := bcell hb
      have hzwe0 : w.heap.size < we.heap.size := by have := hb.size; (try simp at this); omega
      have hzwe1 : wc.heap.size < we.heap.size := by have := hb.size; (try simp at this); omega
      have HBwe := Lib.hid hb
      clear hb 
      have hq' : 0 ≤ q := Rat.num_nonneg.1 hq0
      have HM := Lib.hid (elig_mono count served slack less more q hq' c0 c1 c2 c3 c4 c5 c6 c7 c9)
      have HR := Lib.hid ((((((H.out.below HBwa.out).below HBwb.out).below HBwc.out).alloc (.cells #[.bool (decide (p1.num < 0)), .slice rx (nlen p1.num.natAbs) cx, .slice rx2 (nlen p1.den) cx2] 29)).below HBwd.out).below HBwe.out)
      have HBL := Lib.hid (show Below w.heap.size w we from ((((((bel1 w _).trans (HBwa.out.mono (by first | omega | (simp; done) | (simp; omega)))).trans (HBwb.out.mono (by first | omega | (simp; done) | (simp; omega)))).trans (HBwc.out.mono (by first | omega | (simp; done) | (simp; omega)))).trans ((bel_of_alloc HBwd.out).mono (by first | omega | (simp; done) | (simp; omega)))).trans (HBwe.out.mono (by first | omega | (simp; done) | (simp; omega)))))
      go_wp2_with fail
      refine (elig_any (N := N) _ _ _ _ _ _ _ _ _ _ 20 q _ (by omega) HR.out (by omega)).mono ?_
      rcases Bool.eq_false_or_eq_true (elig count served q slack) with hE | hE
      rotate_left
      · rw [hE]
        rintro e wf ⟨rfl, hb⟩
        go_wp2_with fail
        go_ret
        exact ⟨rfl, (HBL.out.trans (hb.mono (by omega)))⟩
      obtain ⟨e1, e2, e3⟩ := HM.out hE
      have E3 := Lib.hid hE
      have E4 := Lib.hid e1
      have E5 := Lib.hid e2
      have E6 := Lib.hid e3
      clear hE e1 e2 e3
      rw [E3.out]
      rintro e wf ⟨rfl, hb⟩
      obtain ⟨hcwf, hfwf⟩ := bcell hb
      have hzwf0 : w.heap.size < wf.heap.size := by have := hb.size; (try simp at this); omega
      have hzwf1 : wc.heap.size < wf.heap.size := by have := hb.size; (try simp at this); omega
      have HBwf := Lib.hid hb
      clear hb 
      go_wp2_with fail
      refine (elig_any (N := N) _ _ _ _ _ _ _ _ _ _ 20 q _ (by omega) (HR.out.below HBwf.out) (by omega)).mono ?_
      rw [E4.out]
      rintro e wg ⟨rfl, hb⟩
      obtain ⟨hcwg, hfwg⟩ := bcell hb
      have hzwg0 : w.heap.size < wg.heap.size := by have := hb.size; (try simp at this); omega
      have hzwg1 : wc.heap.size < wg.heap.size := by have := hb.size; (try simp at this); omega
      have HBwg := Lib.hid hb
      clear hb 
      go_wp2_with fail
      refine (elig_any (N := N) _ _ _ _ _ _ _ _ _ _ 20 q _ (by omega) ((HR.out.below HBwf.out).below HBwg.out) (by omega)).mono ?_
      rw [E5.out]
      rintro e wh ⟨rfl, hb⟩
      obtain ⟨hcwh, hfwh⟩ := bcell hb
      have hzwh0 : w.heap.size < wh.heap.size := by have := hb.size; (try simp at this); omega
      have hzwh1 : wc.heap.size < wh.heap.size := by have := hb.size; (try simp at this); omega
      have HBwh := Lib.hid hb
      clear hb 
      go_wp2_with fail
      refine (elig_any (N := N) _ _ _ _ _ _ _ _ _ _ 20 q _ (by omega) (((HR.out.below HBwf.out).below HBwg.out).below HBwh.out) (by omega)).mono ?_
      rw [E6.out]
      rintro e wi ⟨rfl, hb⟩
      obtain ⟨hcwi, hfwi⟩ := bcell hb
      have hzwi0 : w.heap.size < wi.heap.size := by have := hb.size; (try simp at this); omega
      have hzwi1 : wc.heap.size < wi.heap.size := by have := hb.size; (try simp at this); omega
      have HBwi := Lib.hid hb
      clear hb 
      go_wp2_with fail
      go_ret
      exact ⟨rfl, (((HBL.out.trans (HBwf.out.mono (by omega))).trans (HBwg.out.mono (by omega))).trans (HBwh.out.mono (by omega))).trans (HBwi.out.mono (by omega))⟩
    · clear hl
      obtain ⟨sg, hsg0⟩ : ∃ sg, q.num.sign = sg := ⟨_, rfl⟩
      have HSG := Lib.hid hsg0
      clear hsg0
      go_enter Try.func5, Try.ntmps5
      go_wp2_with fail
      refine (large_any _ _ _ _ _ _ _ _).mono ?_
      rw [HLG.out]
      rintro e wa ⟨rfl, hb⟩
      obtain ⟨hcwa, hfwa⟩ := bcell hb
      have hzwa0 : w.heap.size < wa.heap.size := by have := hb.size; (try simp at this); omega
      have HBwa := Lib.hid hb
      clear hb 
      go_wp2_with fail
      refine (rsign_any (N := N) _ _ _ _ _ _ _ 20 q _ (by omega) (H.out.below HBwa.out)).mono ?_
      rw [HSG.out]
      rintro e wb ⟨rfl, hb⟩
      obtain ⟨hcwb, hfwb⟩ := bcell hb
      have hzwb0 : w.heap.size < wb.heap.size := by have := hb.size; (try simp at this); omega
      have HBwb := Lib.hid hb
      clear hb 
      have HCC := Lib.hid hC
      clear hC
      have HFIN := Lib.hid (show Below w.heap.size w wb from (((bel1 w _).trans (HBwa.out.mono (by first | omega | (simp; done) | (simp; omega)))).trans (HBwb.out.mono (by first | omega | (simp; done) | (simp; omega)))))
      by_cases t0 : sg < 0
      · go_wp2_with fail
        go_ret
        exact ⟨rfl, HFIN.out⟩
      by_cases t1 : count < 0
      · go_wp2_with fail
        go_ret
        exact ⟨rfl, HFIN.out⟩
      by_cases t2 : served < 0
      · go_wp2_with fail
        go_ret
        exact ⟨rfl, HFIN.out⟩
      by_cases t3 : slack < 0
      · go_wp2_with fail
        go_ret
        exact ⟨rfl, HFIN.out⟩
      by_cases t4 : 9999 < count
      · go_wp2_with fail
        go_ret
        exact ⟨rfl, HFIN.out⟩
      by_cases t5 : 9999 < served
      · go_wp2_with fail
        go_ret
        exact ⟨rfl, HFIN.out⟩
      by_cases t6 : 9999 < slack
      · go_wp2_with fail
        go_ret
        exact ⟨rfl, HFIN.out⟩
      by_cases t7 : less < 0
      · go_wp2_with fail
        go_ret
        exact ⟨rfl, HFIN.out⟩
      by_cases t8 : more < 0
      · go_wp2_with fail
        go_ret
        exact ⟨rfl, HFIN.out⟩
      by_cases t9 : 9999 < less
      · go_wp2_with fail
        go_ret
        exact ⟨rfl, HFIN.out⟩
      by_cases t10 : 9999 < more
      · go_wp2_with fail
        go_ret
        exact ⟨rfl, HFIN.out⟩
      exfalso; apply HCC.out
      have t11 : 0 ≤ q.num := Int.sign_nonneg_iff.1 (by rw [HSG.out]; omega)
      omega

end Go.Proofs.Ytnidfpilmmhniaa
