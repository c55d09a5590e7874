/- Contracts of ratio.Sign, Norm, Neg, Mul and Cmp: for rational numbers of at most 2^36 limbs in a part. -/
import Derived.Test.YtnillajhhimeiaaDoorRatB
namespace Go.Proofs.YtnillajhhimeiaaDoor
open Go.RowKit

theorem bel_of_alloc {w w' : World} {o : Obj} (h : Below (w.alloc o).heap.size (w.alloc o) w') : Below w.heap.size w w' := (bel1 w o).trans (h.mono (by simp))
theorem sgn_mk (s : Bool) (mn md : Nat) (h : 0 < md) : (zI s mn).sign = (mkRat (zI s mn) md).num.sign := by
  rw [red_num s mn md h]
  have hg : 0 < Nat.gcd mn md := Nat.gcd_pos_of_pos_right _ h
  have hd := Nat.gcd_dvd_left mn md
  rcases Nat.eq_zero_or_pos mn with h0 | h0
  · subst h0; simp [zI]
  · have h1 : 0 < mn / Nat.gcd mn md := Nat.div_pos (Nat.le_of_dvd h0 hd) hg
    unfold zI
    cases s
    · simp only [Bool.false_eq_true, if_false]
      rw [Int.sign_eq_one_of_pos (by omega), Int.sign_eq_one_of_pos (by omega)]
    · simp only [if_true]
      rw [Int.sign_eq_neg_one_of_neg (by omega), Int.sign_eq_neg_one_of_neg (by omega)]

set_option maxHeartbeats 2000000 in
theorem rsign_any {N : Nat} (s : Bool) (a d : Option Addr) (na ca nd cd L : Nat) (q : Rat) (w : World) (hN : N ≤ w.heap.size) (h : Rt N w s a na ca d nd cd q L) :
    Calls Tryd.prog 13 #[.agg #[.bool s, .slice a na ca, .slice d nd cd]] w fun e w' => e = .returned (.int .i64 q.num.sign) ∧ Below w.heap.size w w' := by
  have H := Lib.hid (h.alloc (.cells #[.bool s, .slice a na ca, .slice d nd cd] 30))
  clear h
  go_enter Tryd.func13, Tryd.ntmps13
  go_wp2_with fail
  refine (parts_any (N := N) _ _ _ _ _ _ _ L q _ (by simp; omega) H.out).mono ?_
  rintro e wa ⟨s1, a1, na1, ca1, d1, nd1, cd1, mn1, md1, rfl, hn, hn', hp1, hq1, l1, l1', hb⟩
  obtain ⟨hcwa, hfwa⟩ := bcell hb
  have hzwa0 : w.heap.size < wa.heap.size := by have := hb.size; (try simp at this); omega
  have HBwa := Lib.hid hb
  have HNwa := Lib.hid hn
  have HN'wa := Lib.hid hn'
  clear hb hn hn'
  have HE := Lib.hid ((sgn_mk s1 mn1 md1 hp1).trans (by rw [hq1]))
  clear hq1 hp1
  go_wp2_with fail
  refine (isign_any (N := N) _ _ _ _ mn1 _ (HNwa.out.alloc _)).mono ?_
  rintro e wb ⟨rfl, hb⟩
  obtain ⟨hcwb, hfwb⟩ := bcell hb
  have hzwb0 : w.heap.size < wb.heap.size := by have := hb.size; (try simp at this); omega
  have hzwb1 : wa.heap.size < wb.heap.size := by have := hb.size; (try simp at this); omega
  have HBwb := Lib.hid hb
  clear hb 
  rw [HE.out]
  go_wp2_with fail
  go_ret
  exact ⟨rfl, ((bel1 w _).trans (HBwa.out.mono (by first | omega | (simp; done) | (simp; omega)))).trans ((bel_of_alloc HBwb.out).mono (by omega))⟩
  
set_option maxHeartbeats 2000000 in
theorem rnorm_any {N : Nat} (s : Bool) (a d : Option Addr) (na ca nd cd L : Nat) (q : Rat) (w : World) (hN : N ≤ w.heap.size) (h : Rt N w s a na ca d nd cd q L) (hL : L ≤ 1099511627776) :
    Calls Tryd.prog 28 #[.agg #[.bool s, .slice a na ca, .slice d nd cd]] w (RatPost N w q) := by
  have H := Lib.hid ((h.alloc (.cells #[.bool s, .slice a na ca, .slice d nd cd] 30)).alloc (.cells #[.bool false, .slice none 0 0, .slice none 0 0] 30))
  clear h
  go_enter Tryd.func28, Tryd.ntmps28
  go_wp2_with fail
  refine (parts_any (N := N) _ _ _ _ _ _ _ L q _ (by simp; omega) H.out).mono ?_
  rintro e wa ⟨s1, a1, na1, ca1, d1, nd1, cd1, mn1, md1, rfl, hn, hn', hp1, hq1, l1, l1', hb⟩
  obtain ⟨hcwa, hfwa⟩ := bcell hb
  have hzwa0 : w.heap.size < wa.heap.size := by have := hb.size; (try simp at this); omega
  have hzwa1 : w.heap.size + 1 < wa.heap.size := by have := hb.size; (try simp at this); omega
  have HBwa := Lib.hid hb
  have HNwa := Lib.hid hn
  have HN'wa := Lib.hid hn'
  clear hb hn hn'
  have HQ := Lib.hid hq1
  clear hq1
  go_wp2_with fail
  refine (reduce_any (N := N) _ _ _ _ _ mn1 _ _ md1 _ (by omega) HNwa.out HN'wa.out (by omega) (by omega) hp1 q HQ.out).mono ?_
  rintro e wb ⟨rx, cx, rx2, cx2, rfl, hn, hn', hb⟩
  obtain ⟨hcwb, hfwb⟩ := bcell hb
  have hzwb0 : w.heap.size < wb.heap.size := by have := hb.size; (try simp at this); omega
  have hzwb1 : w.heap.size + 1 < wb.heap.size := by have := hb.size; (try simp at this); omega
  have HBwb := Lib.hid hb
  have HNwb := Lib.hid hn
  have HN'wb := Lib.hid hn'
  clear hb hn hn'
  have HX := Lib.hid (((Bx.new' (w.alloc (.cells #[.bool s, .slice a na ca, .slice d nd cd] 30)) #[.bool false, .slice none 0 0, .slice none 0 0] 30 (w.heap.size + 1) (by simp)).below HBwa.out).below HBwb.out)
  have HF := Lib.hid (fun v0 v1 v2 => fin3 hN (by omega) HX.out HNwb.out HN'wb.out (((bel2 w _ _).trans (HBwa.out.mono (by first | omega | (simp; done) | (simp; omega)))).trans (HBwb.out.mono (by first | omega | (simp; done) | (simp; omega)))) v0 v1 v2)
  go_wp2_with fail
  exact bodyPost_ret (v := .agg #[.bool (decide ((q).num < 0)), .slice rx (nlen (q).num.natAbs) cx, .slice rx2 (nlen (q).den) cx2]) (by simp [results, Tryd.results28, go_sem, hcwa, hcwb, hzwa1]) rfl ⟨_, _, _, _, rfl, (HF.out _ _ _).1, (HF.out _ _ _).2.1, (HF.out _ _ _).2.2⟩
  
theorem neg_mk (s : Bool) (mn md : Nat) (q p : Rat) (h : mkRat (zI s mn) md = q) (hp : -q = p) (z : Int) (hz : -zI s mn = z) : mkRat (zI (decide (z < 0)) z.natAbs) md = p := by
  rw [zI_norm, ← hz, ← hp, ← h, Rat.neg_mkRat]
theorem mul_mk (z : Int) (s1 s2 : Bool) (mn1 md1 mn2 md2 : Nat) (q q' p : Rat) (h1 : mkRat (zI s1 mn1) md1 = q) (h2 : mkRat (zI s2 mn2) md2 = q') (hp : q * q' = p) (hz : zI s1 mn1 * zI s2 mn2 = z) : mkRat (zI (decide (z < 0)) z.natAbs) (md1 * md2) = p := by
  rw [zI_norm, ← hz, ← hp, ← h1, ← h2, Rat.mkRat_mul_mkRat]
theorem nlen_imul {z : Int} {s1 s2 : Bool} {m1 m2 : Nat} (hz : zI s1 m1 * zI s2 m2 = z) : nlen z.natAbs ≤ nlen m1 + nlen m2 := by
  rw [← hz, Int.natAbs_mul, zI_abs, zI_abs]; exact nlen_mul _ _
set_option maxHeartbeats 4000000 in
theorem rmul_any {N : Nat} (s s' : Bool) (a d a' d' : Option Addr) (na ca nd cd na' ca' nd' cd' L L' : Nat) (q q' : Rat) (w : World) (hN : N ≤ w.heap.size) (h : Rt N w s a na ca d nd cd q L) (h' : Rt N w s' a' na' ca' d' nd' cd' q' L') (hL : L ≤ 68719476736) (hL' : L' ≤ 68719476736) (p : Rat) (hp : q * q' = p) :
    Calls Tryd.prog 69 #[.agg #[.bool s, .slice a na ca, .slice d nd cd], .agg #[.bool s', .slice a' na' ca', .slice d' nd' cd']] w (RatPost N w p) := by
  have H := Lib.hid (((h.alloc (.cells #[.bool s, .slice a na ca, .slice d nd cd] 30)).alloc (.cells #[.bool s', .slice a' na' ca', .slice d' nd' cd'] 30)).alloc (.cells #[.bool false, .slice none 0 0, .slice none 0 0] 30))
  have H' := Lib.hid (((h'.alloc (.cells #[.bool s, .slice a na ca, .slice d nd cd] 30)).alloc (.cells #[.bool s', .slice a' na' ca', .slice d' nd' cd'] 30)).alloc (.cells #[.bool false, .slice none 0 0, .slice none 0 0] 30))
  have HP := Lib.hid hp
  clear h h' hp
  go_enter Tryd.func69, Tryd.ntmps69
  go_wp2_with fail
  refine (parts_any (N := N) _ _ _ _ _ _ _ L q _ (by simp; omega) H.out).mono ?_
  rintro e wa ⟨s1, a1, na1, ca1, d1, nd1, cd1, mn1, md1, rfl, hn, hn', hp1, hq1, l1, l1', hb⟩
  obtain ⟨hcwa, hfwa⟩ := bcell hb
  have hzwa0 : w.heap.size < wa.heap.size := by have := hb.size; (try simp at this); omega
  have hzwa1 : w.heap.size + 1 < wa.heap.size := by have := hb.size; (try simp at this); omega
  have hzwa2 : w.heap.size + 2 < wa.heap.size := by have := hb.size; (try simp at this); omega
  have HBwa := Lib.hid hb
  have HNwa := Lib.hid hn
  have HN'wa := Lib.hid hn'
  clear hb hn hn'
  go_wp2_with fail
  refine (parts_any (N := N) _ _ _ _ _ _ _ L' q' _ (by simp; omega) ((H'.out.below HBwa.out).alloc _)).mono ?_
  rintro e wb ⟨s2, a2, na2, ca2, d2, nd2, cd2, mn2, md2, rfl, hn, hn', hp2, hq2, l2, l2', hb⟩
  obtain ⟨hcwb, hfwb⟩ := bcell hb
  have hzwb0 : w.heap.size < wb.heap.size := by have := hb.size; (try simp at this); omega
  have hzwb1 : w.heap.size + 1 < wb.heap.size := by have := hb.size; (try simp at this); omega
  have hzwb2 : w.heap.size + 2 < wb.heap.size := by have := hb.size; (try simp at this); omega
  have hzwb3 : wa.heap.size < wb.heap.size := by have := hb.size; (try simp at this); omega
  have HBwb := Lib.hid hb
  have HNwb := Lib.hid hn
  have HN'wb := Lib.hid hn'
  clear hb hn hn'
  obtain ⟨z, hz⟩ : ∃ z, zI s1 mn1 * zI s2 mn2 = z := ⟨_, rfl⟩
  have HQ := Lib.hid (mul_mk z s1 s2 mn1 md1 mn2 md2 q q' p hq1 hq2 HP.out hz)
  have HZ := Lib.hid hz
  have lz := nlen_imul hz
  have lm := nlen_mul md1 md2
  have b1 := nlen_bound HNwa.out _ l1
  have b2 := nlen_bound HNwb.out _ l2
  have b3 := nlen_bound HN'wa.out _ l1'
  have b4 := nlen_bound HN'wb.out _ l2'
  clear hq1 hq2 hz
  go_wp2_with fail
  refine (imul_any (N := N) _ _ _ _ _ _ mn1 _ _ mn2 _ (by simp; omega) ((HNwa.out.below (bel_of_alloc HBwb.out)).alloc _) (HNwb.out.alloc _) (by omega) (by omega) z HZ.out).mono ?_
  rintro e wc ⟨rc, cc', rfl, hn, hb⟩
  obtain ⟨hcwc, hfwc⟩ := bcell hb
  have hzwc0 : w.heap.size < wc.heap.size := by have := hb.size; (try simp at this); omega
  have hzwc1 : w.heap.size + 1 < wc.heap.size := by have := hb.size; (try simp at this); omega
  have hzwc2 : w.heap.size + 2 < wc.heap.size := by have := hb.size; (try simp at this); omega
  have hzwc3 : wa.heap.size < wc.heap.size := by have := hb.size; (try simp at this); omega
  have hzwc4 : wb.heap.size < wc.heap.size := by have := hb.size; (try simp at this); omega
  have HBwc := Lib.hid hb
  have HNwc := Lib.hid hn
  clear hb hn
  go_wp2_with fail
  refine (mul_any (N := N) _ _ _ _ md1 _ _ md2 _ (by omega) ((HN'wa.out.below (bel_of_alloc HBwb.out)).below (bel_of_alloc HBwc.out)) (HN'wb.out.below (bel_of_alloc HBwc.out)) (by omega) (by omega)).mono ?_
  rintro e wd ⟨rd, cd1, rfl, hn, hb⟩
  obtain ⟨hcwd, hfwd⟩ := bcell hb
  have hzwd0 : w.heap.size < wd.heap.size := by have := hb.size; (try simp at this); omega
  have hzwd1 : w.heap.size + 1 < wd.heap.size := by have := hb.size; (try simp at this); omega
  have hzwd2 : w.heap.size + 2 < wd.heap.size := by have := hb.size; (try simp at this); omega
  have hzwd3 : wa.heap.size < wd.heap.size := by have := hb.size; (try simp at this); omega
  have hzwd4 : wb.heap.size < wd.heap.size := by have := hb.size; (try simp at this); omega
  have HBwd := Lib.hid hb
  have HNwd := Lib.hid hn
  clear hb hn
  go_wp2_with fail
  refine (reduce_any (N := N) _ _ _ _ _ z.natAbs _ _ (md1 * md2) _ (by omega) (HNwc.out.below HBwd.out) HNwd.out (by omega) (by omega) (Nat.mul_pos hp1 hp2) p HQ.out).mono ?_
  rintro e we ⟨rx, cx, rx2, cx2, rfl, hn, hn', hb⟩
  obtain ⟨hcwe, hfwe⟩ := bcell hb
  have hzwe0 : w.heap.size < we.heap.size := by have := hb.size; (try simp at this); omega
  have hzwe1 : w.heap.size + 1 < we.heap.size := by have := hb.size; (try simp at this); omega
  have hzwe2 : w.heap.size + 2 < we.heap.size := by have := hb.size; (try simp at this); omega
  have hzwe3 : wa.heap.size < we.heap.size := by have := hb.size; (try simp at this); omega
  have hzwe4 : wb.heap.size < we.heap.size := by have := hb.size; (try simp at this); omega
  have HBwe := Lib.hid hb
  have HNwe := Lib.hid hn
  have HN'we := Lib.hid hn'
  clear hb hn hn'
  have HX := Lib.hid ((((((Bx.new' ((w.alloc (.cells #[.bool s, .slice a na ca, .slice d nd cd] 30)).alloc (.cells #[.bool s', .slice a' na' ca', .slice d' nd' cd'] 30)) #[.bool false, .slice none 0 0, .slice none 0 0] 30 (w.heap.size + 1 + 1) (by simp)).below HBwa.out).below (bel_of_alloc HBwb.out)).below (bel_of_alloc HBwc.out)).below HBwd.out).below HBwe.out)
  have HF := Lib.hid (fun v0 v1 v2 => fin3 hN (by omega) HX.out HNwe.out HN'we.out ((((((bel3 w _ _ _).trans (HBwa.out.mono (by first | omega | (simp; done) | (simp; omega)))).trans ((bel_of_alloc HBwb.out).mono (by first | omega | (simp; done) | (simp; omega)))).trans ((bel_of_alloc HBwc.out).mono (by first | omega | (simp; done) | (simp; omega)))).trans (HBwd.out.mono (by first | omega | (simp; done) | (simp; omega)))).trans (HBwe.out.mono (by first | omega | (simp; done) | (simp; omega)))) v0 v1 v2)
  go_wp2_with fail
  exact bodyPost_ret (v := .agg #[.bool (decide ((p).num < 0)), .slice rx (nlen (p).num.natAbs) cx, .slice rx2 (nlen (p).den) cx2]) (by simp [results, Tryd.results69, go_sem, hcwa, hcwb, hcwc, hcwd, hcwe, hzwa1, hzwa2, hzwb1, hzwb2, hzwc2, hzwd2]) rfl ⟨_, _, _, _, rfl, (HF.out _ _ _).1, (HF.out _ _ _).2.1, (HF.out _ _ _).2.2⟩
  

end Go.Proofs.YtnillajhhimeiaaDoor
