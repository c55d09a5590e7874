/- Contracts of the reference's Make and Of of rational numbers. -/
import Derived.Test.YtnidfpilmmhniaaRefS
namespace Go.Proofs.Ytnidfpilmmhniaa
open Go.RowKit

set_option maxHeartbeats 8000000 in
theorem xrmake_any {N : Nat} (s s' : Bool) (a a' : Option Addr) (na ca m na' ca' m' : Nat) (w : World) (hN : N ≤ w.heap.size) (h : Nt N w a na ca m) (h' : Nt N w a' na' ca' m') (hl : na ≤ 137438953472) (hl' : na' ≤ 137438953472) (p : Rat) (hp : mkRat (zI (s != s') m) m' = p) :
    Calls Try.prog 117 #[.agg #[.bool s, .slice a na ca], .agg #[.bool s', .slice a' na' ca']] w (RatPost2 N w p (decide (0 < m'))) := by
  have H := Lib.hid (((h.alloc (.cells #[.bool s, .slice a na ca] 27)).alloc (.cells #[.bool s', .slice a' na' ca'] 27)).alloc (.cells #[.bool false, .slice none 0 0, .slice none 0 0] 29))
  have H' := Lib.hid (((h'.alloc (.cells #[.bool s, .slice a na ca] 27)).alloc (.cells #[.bool s', .slice a' na' ca'] 27)).alloc (.cells #[.bool false, .slice none 0 0, .slice none 0 0] 29))
  have lm := nlen_bound h _ hl
  have lm' := nlen_bound h' _ hl'
  clear h h'
  rcases Nat.eq_zero_or_pos m' with h0 | h0
  · have hb0 := bl0 h0
    have HQ0 := Lib.hid (show (0 : Rat) = p by rw [← hp, h0, Rat.mkRat_zero])
    have HSD := Lib.hid (show (s' && decide (0 < m')) = false by rw [h0]; cases s' <;> rfl)
    have HDC := Lib.hid (show decide (0 < m') = false by rw [h0]; rfl)
    rw [HDC.out]
    clear hp h0
    go_enter Try.func117, Try.ntmps117
    go_wp2_with fail
    refine (xinorm_core (N := N) _ _ _ _ m' _ (by simp; omega) H'.out (by omega)).mono ?_
    rw [HSD.out]
    rintro e wa ⟨ra, ca1, rfl, hn, hb⟩
    obtain ⟨hcwa, hfwa⟩ := bcell hb
    have hzwa0 : w.heap.size < wa.heap.size := by have := hb.size; (try simp at this); omega
    have hzwa1 : w.heap.size + 1 < wa.heap.size := by have := hb.size; (try simp at this); omega
    have hzwa2 : w.heap.size + 1 + 1 < wa.heap.size := by have := hb.size; (try simp at this); omega
    have HBwa := Lib.hid hb
    have HNwa := Lib.hid hn
    clear hb hn
    have HNA := Lib.hid (HNwa.out.alloc (.cells #[.bool false, .slice ra (nlen m') ca1] 27))
    have HA := Lib.hid ((H.out.below HBwa.out).alloc (.cells #[.bool false, .slice ra (nlen m') ca1] 27))
    go_wp2_with fail
    refine (bits_any (N := N) _ _ _ m' _ HNA.out (by omega)).mono ?_
    rintro e wb ⟨rfl, hb⟩
    obtain ⟨hcwb, hfwb⟩ := bcell hb
    have hzwb0 : w.heap.size < wb.heap.size := by have := hb.size; (try simp at this); omega
    have hzwb1 : w.heap.size + 1 < wb.heap.size := by have := hb.size; (try simp at this); omega
    have hzwb2 : w.heap.size + 1 + 1 < wb.heap.size := by have := hb.size; (try simp at this); omega
    have hzwb3 : wa.heap.size < wb.heap.size := by have := hb.size; (try simp at this); omega
    have HBwb := Lib.hid hb
    clear hb 
    go_wp2_with fail
    refine (xrzero_any (N := N) _ (by omega)).mono ?_
    rw [HQ0.out]
    rintro e wc ⟨rx, cx, rx2, cx2, rfl, hn, hn', hb⟩
    obtain ⟨hcwc, hfwc⟩ := bcell hb
    have hzwc0 : w.heap.size < wc.heap.size := by have := hb.size; (try simp at this); omega
    have hzwc1 : w.heap.size + 1 < wc.heap.size := by have := hb.size; (try simp at this); omega
    have hzwc2 : w.heap.size + 1 + 1 < wc.heap.size := by have := hb.size; (try simp at this); omega
    have hzwc3 : wa.heap.size < wc.heap.size := by have := hb.size; (try simp at this); omega
    have HBwc := Lib.hid hb
    have HNwc := Lib.hid hn
    have HN'wc := Lib.hid hn'
    clear hb hn hn'
    have HX := Lib.hid ((((Bx.new' ((w.alloc (.cells #[.bool s, .slice a na ca] 27)).alloc (.cells #[.bool s', .slice a' na' ca'] 27)) #[.bool false, .slice none 0 0, .slice none 0 0] 29 (w.heap.size + 1 + 1) (by simp)).below HBwa.out).below (bel_of_alloc HBwb.out)).below HBwc.out)
    have HF := Lib.hid (fun v0 v1 v2 => fin3 hN (by omega) HX.out HNwc.out HN'wc.out ((((bel3 w _ _ _).trans (HBwa.out.mono (by first | omega | (simp; done) | (simp; omega)))).trans ((bel_of_alloc HBwb.out).mono (by first | omega | (simp; done) | (simp; omega)))).trans (HBwc.out.mono (by first | omega | (simp; done) | (simp; omega)))) v0 v1 v2)
    go_wp2_with fail
    exact bodyPost_ret (v := .tuple #[.agg #[.bool (decide ((p).num < 0)), .slice rx (nlen (p).num.natAbs) cx, .slice rx2 (nlen (p).den) cx2], .bool false]) (by simp [results, Try.results117, go_sem, hcwa, hcwb, hcwc, hzwa1, hzwa2, hzwb2]) rfl ⟨_, _, _, _, rfl, (HF.out _ _ _).1, (HF.out _ _ _).2.1, (HF.out _ _ _).2.2⟩
  · have hb0 := bl1 h0
    have HDC := Lib.hid (show decide (0 < m') = true by simpa using h0)
    rw [HDC.out]
    obtain ⟨z, hz⟩ : ∃ z, zI s m = z := ⟨_, rfl⟩
    have lz : nlen z.natAbs ≤ 137438953472 := by rw [← hz, zI_abs]; exact lm
    have HZ := Lib.hid hz
    cases s'
    · have HSD := Lib.hid (show (false && decide (0 < m')) = false from rfl)
      have HQ := Lib.hid (show mkRat (zI (decide (z < 0)) z.natAbs) m' = p by rw [zI_norm, ← hz, ← hp, Bool.bne_false])
      clear hp hz
      go_enter Try.func117, Try.ntmps117
      go_wp2_with fail
      refine (xinorm_core (N := N) _ _ _ _ m' _ (by simp; omega) H'.out (by omega)).mono ?_
      rw [HSD.out]
      rintro e wa ⟨ra, ca1, rfl, hn, hb⟩
      obtain ⟨hcwa, hfwa⟩ := bcell hb
      have hzwa0 : w.heap.size < wa.heap.size := by have := hb.size; (try simp at this); omega
      have hzwa1 : w.heap.size + 1 < wa.heap.size := by have := hb.size; (try simp at this); omega
      have hzwa2 : w.heap.size + 1 + 1 < wa.heap.size := by have := hb.size; (try simp at this); omega
      have HBwa := Lib.hid hb
      have HNwa := Lib.hid hn
      clear hb hn
      have HNA := Lib.hid (HNwa.out.alloc (.cells #[.bool false, .slice ra (nlen m') ca1] 27))
      have HA := Lib.hid ((H.out.below HBwa.out).alloc (.cells #[.bool false, .slice ra (nlen m') ca1] 27))
      go_wp2_with fail
      refine (bits_any (N := N) _ _ _ m' _ HNA.out (by omega)).mono ?_
      rintro e wb ⟨rfl, hb⟩
      obtain ⟨hcwb, hfwb⟩ := bcell hb
      have hzwb0 : w.heap.size < wb.heap.size := by have := hb.size; (try simp at this); omega
      have hzwb1 : w.heap.size + 1 < wb.heap.size := by have := hb.size; (try simp at this); omega
      have hzwb2 : w.heap.size + 1 + 1 < wb.heap.size := by have := hb.size; (try simp at this); omega
      have hzwb3 : wa.heap.size < wb.heap.size := by have := hb.size; (try simp at this); omega
      have HBwb := Lib.hid hb
      clear hb 
      go_wp2_with fail
      refine (xinorm_any (N := N) _ _ _ _ m _ (by omega) (HA.out.below HBwb.out) (by omega) z HZ.out).mono ?_
      rintro e wc ⟨rc, cc', rfl, hn, hb⟩
      obtain ⟨hcwc, hfwc⟩ := bcell hb
      have hzwc0 : w.heap.size < wc.heap.size := by have := hb.size; (try simp at this); omega
      have hzwc1 : w.heap.size + 1 < wc.heap.size := by have := hb.size; (try simp at this); omega
      have hzwc2 : w.heap.size + 1 + 1 < wc.heap.size := by have := hb.size; (try simp at this); omega
      have hzwc3 : wa.heap.size < wc.heap.size := by have := hb.size; (try simp at this); omega
      have HBwc := Lib.hid hb
      have HNwc := Lib.hid hn
      clear hb hn
      go_wp2_with fail
      refine (xreduce_any (N := N) _ _ _ _ _ z.natAbs _ _ m' _ (by simp; omega) (HNwc.out.alloc _) (((HNA.out.below HBwb.out).below HBwc.out).alloc _) (by omega) (by omega) h0 p HQ.out).mono ?_
      rintro e wd ⟨rx, cx, rx2, cx2, rfl, hn, hn', hb⟩
      obtain ⟨hcwd, hfwd⟩ := bcell hb
      have hzwd0 : w.heap.size < wd.heap.size := by have := hb.size; (try simp at this); omega
      have hzwd1 : w.heap.size + 1 < wd.heap.size := by have := hb.size; (try simp at this); omega
      have hzwd2 : w.heap.size + 1 + 1 < wd.heap.size := by have := hb.size; (try simp at this); omega
      have hzwd3 : wa.heap.size < wd.heap.size := by have := hb.size; (try simp at this); omega
      have hzwd4 : wc.heap.size < wd.heap.size := by have := hb.size; (try simp at this); omega
      have HBwd := Lib.hid hb
      have HNwd := Lib.hid hn
      have HN'wd := Lib.hid hn'
      clear hb hn hn'
      have HX := Lib.hid (((((Bx.new' ((w.alloc (.cells #[.bool s, .slice a na ca] 27)).alloc (.cells #[.bool false, .slice a' na' ca'] 27)) #[.bool false, .slice none 0 0, .slice none 0 0] 29 (w.heap.size + 1 + 1) (by simp)).below HBwa.out).below (bel_of_alloc HBwb.out)).below HBwc.out).below (bel_of_alloc HBwd.out))
      have HF := Lib.hid (fun v0 v1 v2 => fin3 hN (by omega) HX.out HNwd.out HN'wd.out (((((bel3 w _ _ _).trans (HBwa.out.mono (by first | omega | (simp; done) | (simp; omega)))).trans ((bel_of_alloc HBwb.out).mono (by first | omega | (simp; done) | (simp; omega)))).trans (HBwc.out.mono (by first | omega | (simp; done) | (simp; omega)))).trans ((bel_of_alloc HBwd.out).mono (by first | omega | (simp; done) | (simp; omega)))) v0 v1 v2)
      go_wp2_with fail
      exact bodyPost_ret (v := .tuple #[.agg #[.bool (decide ((p).num < 0)), .slice rx (nlen (p).num.natAbs) cx, .slice rx2 (nlen (p).den) cx2], .bool true]) (by simp [results, Try.results117, go_sem, hcwa, hcwb, hcwc, hcwd, hzwa1, hzwa2, hzwb2, hzwc1, hzwc2]) rfl ⟨_, _, _, _, rfl, (HF.out _ _ _).1, (HF.out _ _ _).2.1, (HF.out _ _ _).2.2⟩
    · have HSD := Lib.hid (show (true && decide (0 < m')) = true by simpa using h0)
      obtain ⟨y, hy⟩ : ∃ y, -zI (decide (z < 0)) z.natAbs = y := ⟨_, rfl⟩
      have ly : nlen y.natAbs ≤ 137438953472 := by rw [← hy, Int.natAbs_neg, zI_abs]; exact lz
      have HQ := Lib.hid (show mkRat (zI (decide (y < 0)) y.natAbs) m' = p by rw [zI_norm, ← hy, zI_norm, ← hz, ← hp, Bool.bne_true, zI_not])
      have HY := Lib.hid hy
      clear hp hz hy
      go_enter Try.func117, Try.ntmps117
      go_wp2_with fail
      refine (xinorm_core (N := N) _ _ _ _ m' _ (by simp; omega) H'.out (by omega)).mono ?_
      rw [HSD.out]
      rintro e wa ⟨ra, ca1, rfl, hn, hb⟩
      obtain ⟨hcwa, hfwa⟩ := bcell hb
      have hzwa0 : w.heap.size < wa.heap.size := by have := hb.size; (try simp at this); omega
      have hzwa1 : w.heap.size + 1 < wa.heap.size := by have := hb.size; (try simp at this); omega
      have hzwa2 : w.heap.size + 1 + 1 < wa.heap.size := by have := hb.size; (try simp at this); omega
      have HBwa := Lib.hid hb
      have HNwa := Lib.hid hn
      clear hb hn
      have HNA := Lib.hid (HNwa.out.alloc (.cells #[.bool true, .slice ra (nlen m') ca1] 27))
      have HA := Lib.hid ((H.out.below HBwa.out).alloc (.cells #[.bool true, .slice ra (nlen m') ca1] 27))
      go_wp2_with fail
      refine (bits_any (N := N) _ _ _ m' _ HNA.out (by omega)).mono ?_
      rintro e wb ⟨rfl, hb⟩
      obtain ⟨hcwb, hfwb⟩ := bcell hb
      have hzwb0 : w.heap.size < wb.heap.size := by have := hb.size; (try simp at this); omega
      have hzwb1 : w.heap.size + 1 < wb.heap.size := by have := hb.size; (try simp at this); omega
      have hzwb2 : w.heap.size + 1 + 1 < wb.heap.size := by have := hb.size; (try simp at this); omega
      have hzwb3 : wa.heap.size < wb.heap.size := by have := hb.size; (try simp at this); omega
      have HBwb := Lib.hid hb
      clear hb 
      go_wp2_with fail
      refine (xinorm_any (N := N) _ _ _ _ m _ (by omega) (HA.out.below HBwb.out) (by omega) z HZ.out).mono ?_
      rintro e wc ⟨rc, cc', rfl, hn, hb⟩
      obtain ⟨hcwc, hfwc⟩ := bcell hb
      have hzwc0 : w.heap.size < wc.heap.size := by have := hb.size; (try simp at this); omega
      have hzwc1 : w.heap.size + 1 < wc.heap.size := by have := hb.size; (try simp at this); omega
      have hzwc2 : w.heap.size + 1 + 1 < wc.heap.size := by have := hb.size; (try simp at this); omega
      have hzwc3 : wa.heap.size < wc.heap.size := by have := hb.size; (try simp at this); omega
      have HBwc := Lib.hid hb
      have HNwc := Lib.hid hn
      clear hb hn
      go_wp2_with fail
      refine (xineg_any (N := N) _ _ _ _ z.natAbs _ (by simp; omega) (HNwc.out.alloc _) (by omega) y HY.out).mono ?_
      rintro e wd ⟨rd, cd', rfl, hn, hb⟩
      obtain ⟨hcwd, hfwd⟩ := bcell hb
      have hzwd0 : w.heap.size < wd.heap.size := by have := hb.size; (try simp at this); omega
      have hzwd1 : w.heap.size + 1 < wd.heap.size := by have := hb.size; (try simp at this); omega
      have hzwd2 : w.heap.size + 1 + 1 < wd.heap.size := by have := hb.size; (try simp at this); omega
      have hzwd3 : wa.heap.size < wd.heap.size := by have := hb.size; (try simp at this); omega
      have hzwd4 : wc.heap.size < wd.heap.size := by have := hb.size; (try simp at this); omega
      have HBwd := Lib.hid hb
      have HNwd := Lib.hid hn
      clear hb hn
      have HXC := Lib.hid ((Bx.new wc #[.bool (decide (z < 0)), .slice rc (nlen z.natAbs) cc'] 27).below HBwd.out)
      have hzcd : w.heap.size ≤ wc.heap.size := by omega
      have HBD := Lib.hid (show Below w.heap.size w wd from (((((bel3 w _ _ _).trans (HBwa.out.mono (by first | omega | (simp; done) | (simp; omega)))).trans ((bel_of_alloc HBwb.out).mono (by first | omega | (simp; done) | (simp; omega)))).trans (HBwc.out.mono (by first | omega | (simp; done) | (simp; omega)))).trans ((bel_of_alloc HBwd.out).mono (by first | omega | (simp; done) | (simp; omega)))))
      have HF1 := Lib.hid (fun v0 v1 => fin2 hN hzcd HXC.out HNwd.out HBD.out v0 v1)
      have HF2 := Lib.hid (fun v0 v1 => fin2 hN hzcd HXC.out (((HNA.out.below HBwb.out).below HBwc.out).below (bel_of_alloc HBwd.out)) HBD.out v0 v1)
      have HXd := Lib.hid (((((Bx.new' ((w.alloc (.cells #[.bool s, .slice a na ca] 27)).alloc (.cells #[.bool true, .slice a' na' ca'] 27)) #[.bool false, .slice none 0 0, .slice none 0 0] 29 (w.heap.size + 1 + 1) (by simp)).below HBwa.out).below (bel_of_alloc HBwb.out)).below HBwc.out).below (bel_of_alloc HBwd.out))
      go_wp2_with fail
      refine (xreduce_any (N := N) _ _ _ _ _ y.natAbs _ _ m' _ (by simp [World.setCell]; omega) (HF1.out _ _).1 (HF2.out _ _).1 (by omega) (by omega) h0 p HQ.out).mono ?_
      rintro e we ⟨rx, cx, rx2, cx2, rfl, hn, hn', hb⟩
      obtain ⟨hcwe, hfwe⟩ := bcell hb
      have hzwe0 : w.heap.size < we.heap.size := by have := hb.size; (try simp at this); omega
      have hzwe1 : w.heap.size + 1 < we.heap.size := by have := hb.size; (try simp at this); omega
      have hzwe2 : w.heap.size + 1 + 1 < we.heap.size := by have := hb.size; (try simp at this); omega
      have hzwe3 : wa.heap.size < we.heap.size := by have := hb.size; (try simp at this); omega
      have hzwe4 : wc.heap.size < we.heap.size := by have := hb.size; (try simp at this); omega
      have HBwe := Lib.hid hb
      have HNwe := Lib.hid hn
      have HN'we := Lib.hid hn'
      clear hb hn hn'
      have HX := Lib.hid (((HXd.out.set _ _).set _ _).below HBwe.out)
      have HBE := Lib.hid (show Below w.heap.size w we from (HF1.out _ _).2.trans (HBwe.out.mono (by simp [World.setCell]; omega)))
      have HF := Lib.hid (fun v0 v1 v2 => fin3 hN (by omega) HX.out HNwe.out HN'we.out HBE.out v0 v1 v2)
      go_wp2_with fail
      exact bodyPost_ret (v := .tuple #[.agg #[.bool (decide ((p).num < 0)), .slice rx (nlen (p).num.natAbs) cx, .slice rx2 (nlen (p).den) cx2], .bool true]) (by simp [results, Try.results117, go_sem, hcwa, hcwb, hcwc, hcwd, hcwe, hzwa1, hzwa2, hzwb2, hzwc1, hzwc2, hzwd2]) rfl ⟨_, _, _, _, rfl, (HF.out _ _ _).1, (HF.out _ _ _).2.1, (HF.out _ _ _).2.2⟩

set_option maxHeartbeats 4000000 in
theorem xrof_any {N : Nat} (n d : Int) (w : World) (hN : N ≤ w.heap.size) (n1 : -9223372036854775808 ≤ n) (n2 : n ≤ 9223372036854775807) (d1 : -9223372036854775808 ≤ d) (d2 : d ≤ 9223372036854775807) (p : Rat) (hp : mkRat (zI (decide (n < 0) != decide (d < 0)) n.natAbs) d.natAbs = p) :
    Calls Try.prog 63 #[.int .i64 n, .int .i64 d] w (RatPost2 N w p (decide (0 < d.natAbs))) := by
  have HP := Lib.hid hp
  have l1 := nlen_two (m := n.natAbs) (by omega)
  have l2 := nlen_two (m := d.natAbs) (by omega)
  clear hp
  go_enter Try.func63, Try.ntmps63
  go_wp2_with fail
  refine (xiof_any (N := N) n _ (by simp; omega) n1 n2).mono ?_
  rintro e wa ⟨ra, ca, rfl, hn, hb⟩
  obtain ⟨hcwa, hfwa⟩ := bcell hb
  have hzwa0 : w.heap.size < wa.heap.size := by have := hb.size; (try simp at this); omega
  have HBwa := Lib.hid hb
  have HNwa := Lib.hid hn
  clear hb hn
  go_wp2_with fail
  refine (xiof_any (N := N) d _ (by omega) d1 d2).mono ?_
  rintro e wb ⟨rb, cb', rfl, hn, hb⟩
  obtain ⟨hcwb, hfwb⟩ := bcell hb
  have hzwb0 : w.heap.size < wb.heap.size := by have := hb.size; (try simp at this); omega
  have HBwb := Lib.hid hb
  have HNwb := Lib.hid hn
  clear hb hn
  go_wp2_with fail
  refine (xrmake_any (N := N) _ _ _ _ _ _ n.natAbs _ _ d.natAbs _ (by omega) (HNwa.out.below HBwb.out) HNwb.out (by omega) (by omega) p HP.out).mono ?_
  rintro e wc ⟨rx, cx, rx2, cx2, rfl, hn, hn', hb⟩
  obtain ⟨hcwc, hfwc⟩ := bcell hb
  have hzwc0 : w.heap.size < wc.heap.size := by have := hb.size; (try simp at this); omega
  have HBwc := Lib.hid hb
  have HNwc := Lib.hid hn
  have HN'wc := Lib.hid hn'
  clear hb hn hn'
  have HX := Lib.hid ((((Bx.new' w #[.bool false, .slice none 0 0, .slice none 0 0] 29 (w.heap.size) (by simp)).below HBwa.out).below HBwb.out).below HBwc.out)
  have HF := Lib.hid (fun v0 v1 v2 => fin3 hN (by omega) HX.out HNwc.out HN'wc.out ((((bel1 w _).trans (HBwa.out.mono (by first | omega | (simp; done) | (simp; omega)))).trans (HBwb.out.mono (by first | omega | (simp; done) | (simp; omega)))).trans (HBwc.out.mono (by first | omega | (simp; done) | (simp; omega)))) v0 v1 v2)
  go_wp2_with fail
  exact bodyPost_ret (v := .tuple #[.agg #[.bool (decide ((p).num < 0)), .slice rx (nlen (p).num.natAbs) cx, .slice rx2 (nlen (p).den) cx2], .bool (decide (0 < d.natAbs))]) (by simp [results, Try.results63, go_sem, hcwa, hcwb, hcwc, hzwa0, hzwb0]) rfl ⟨_, _, _, _, rfl, (HF.out _ _ _).1, (HF.out _ _ _).2.1, (HF.out _ _ _).2.2⟩
  

end Go.Proofs.Ytnidfpilmmhniaa
