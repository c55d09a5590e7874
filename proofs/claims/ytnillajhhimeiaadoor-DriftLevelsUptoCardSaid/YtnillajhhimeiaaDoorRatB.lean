/- Contracts of ratio.zero, parts and reduce. -/
import Derived.Test.YtnillajhhimeiaaDoorRatA
namespace Go.Proofs.YtnillajhhimeiaaDoor
open Go.RowKit

theorem one_den : (0 : Rat).den = 1 := rfl
set_option maxHeartbeats 1000000 in
theorem rzero_any {N : Nat} (w : World) (hN : N ≤ w.heap.size) : Calls Tryd.prog 53 #[] w (RatPost N w 0) := by
  have HZ := Lib.hid nlen_zero
  go_enter Tryd.func53, Tryd.ntmps53
  go_wp2_with fail
  refine (of_any (N := N) 1 _ (by omega)).mono ?_
  rintro e wb ⟨rb, cb', rfl, hn, hb⟩
  obtain ⟨hcwb, hfwb⟩ := bcell hb
  have hzwb0 : w.heap.size < wb.heap.size := by have := hb.size; (try simp at this); omega
  have HBwb := Lib.hid hb
  have HNwb := Lib.hid hn
  clear hb hn
  have HX := Lib.hid ((Bx.new w #[.bool false, .slice none 0 0, .slice none 0 0] 30).below HBwb.out)
  have HF := Lib.hid (fun v0 v1 v2 => fin3 hN (Nat.le_refl _) HX.out (Nt.zero N wb) HNwb.out ((bel1 w _).trans (HBwb.out.mono (by simp))) v0 v1 v2)
  go_wp2_with fail
  refine bodyPost_ret (v := .agg #[.bool false, .slice none 0 0, .slice rb (nlen 1) cb']) (by simp [results, Tryd.results53, go_sem, hcwb]) rfl ?_
  refine ⟨none, 0, rb, cb', ?_, ?_, (HF.out _ _ _).2.1, (HF.out _ _ _).2.2⟩
  · show _ = Ending.returned (.agg #[.bool (decide ((0 : Rat).num < 0)), .slice none (nlen 0) 0, .slice rb (nlen 1) cb'])
    rw [HZ.out]; rfl
  · show Nt N _ none (nlen 0) 0 0
    rw [HZ.out]; exact (HF.out _ _ _).1

set_option maxHeartbeats 2000000 in
theorem reduce_any {N : Nat} (s : Bool) (a d : Option Addr) (na ca mn nd cd md : Nat) (w : World) (hN : N ≤ w.heap.size) (ha : Nt N w a na ca mn) (hd : Nt N w d nd cd md) (la : na ≤ 1099511627776) (ld : nd ≤ 1099511627776) (hmd : 0 < md) (q : Rat) (hq : mkRat (zI s mn) md = q) :
    Calls Tryd.prog 54 #[.agg #[.bool s, .slice a na ca], .slice d nd cd] w (RatPost N w q) := by
  have q1 := red_num s mn md hmd
  have q2 := red_den s mn md hmd
  rw [hq] at q1 q2
  have hg : 0 < Nat.gcd mn md := Nat.gcd_pos_of_pos_right _ hmd
  have lm := nlen_mono (Nat.div_le_self mn (Nat.gcd mn md))
  have lm2 := nlen_bound ha _ la
  have HA := Lib.hid ((ha.alloc (.cells #[.bool s, .slice a na ca] 28)).alloc (.cells #[.bool false, .slice none 0 0, .slice none 0 0] 30))
  have HD := Lib.hid ((hd.alloc (.cells #[.bool s, .slice a na ca] 28)).alloc (.cells #[.bool false, .slice none 0 0, .slice none 0 0] 30))
  have HQ1 := Lib.hid q1
  have HQ2 := Lib.hid q2
  clear ha hd hq q1 q2
  go_enter Tryd.func54, Tryd.ntmps54
  go_wp2_with fail
  refine (gcd_any (N := N) _ _ _ _ mn _ _ md _ (by simp; omega) HA.out HD.out la ld).mono ?_
  rintro e wa ⟨ra, ca', rfl, hn, hb⟩
  obtain ⟨hcwa, hfwa⟩ := bcell hb
  have hzwa0 : w.heap.size < wa.heap.size := by have := hb.size; (try simp at this); omega
  have hzwa1 : w.heap.size + 1 < wa.heap.size := by have := hb.size; (try simp at this); omega
  have HBwa := Lib.hid hb
  have HNwa := Lib.hid hn
  clear hb hn
  go_wp2_with fail
  refine (divMod_any (N := N) _ _ _ _ mn _ _ (Nat.gcd mn md) _ (by omega) (HA.out.below HBwa.out) HNwa.out la hg).mono ?_
  rintro e wb ⟨rb, cb', rb2, cb2, rfl, hn, _, hb⟩
  obtain ⟨hcwb, hfwb⟩ := bcell hb
  have hzwb0 : w.heap.size < wb.heap.size := by have := hb.size; (try simp at this); omega
  have hzwb1 : w.heap.size + 1 < wb.heap.size := by have := hb.size; (try simp at this); omega
  have HBwb := Lib.hid hb
  have HNwb := Lib.hid hn
  clear hb hn
  go_wp2_with fail
  refine (divMod_any (N := N) _ _ _ _ md _ _ (Nat.gcd mn md) _ (by omega) ((HD.out.below HBwa.out).below HBwb.out) (HNwa.out.below HBwb.out) ld hg).mono ?_
  rw [← HQ2.out]
  rintro e wc ⟨rc, cc', rc2, cc2, rfl, hn, _, hb⟩
  obtain ⟨hcwc, hfwc⟩ := bcell hb
  have hzwc0 : w.heap.size < wc.heap.size := by have := hb.size; (try simp at this); omega
  have hzwc1 : w.heap.size + 1 < wc.heap.size := by have := hb.size; (try simp at this); omega
  have HBwc := Lib.hid hb
  have HNwc := Lib.hid hn
  clear hb hn
  go_wp2_with fail
  refine (make_z (N := N) s _ _ _ (mn / Nat.gcd mn md) _ (by omega) (HNwb.out.below HBwc.out) (by omega) q.num HQ1.out.symm).mono ?_
  rintro e wd ⟨rd, cd', rfl, hn, hb⟩
  obtain ⟨hcwd, hfwd⟩ := bcell hb
  have hzwd0 : w.heap.size < wd.heap.size := by have := hb.size; (try simp at this); omega
  have hzwd1 : w.heap.size + 1 < wd.heap.size := by have := hb.size; (try simp at this); omega
  have HBwd := Lib.hid hb
  have HNwd := Lib.hid hn
  clear hb hn
  have HX := Lib.hid (((((Bx.new' (w.alloc (.cells #[.bool s, .slice a na ca] 28)) #[.bool false, .slice none 0 0, .slice none 0 0] 30 (w.heap.size + 1) (by simp)).below HBwa.out).below HBwb.out).below HBwc.out).below HBwd.out)
  have HBB := Lib.hid (((((bel2 w _ _).trans (HBwa.out.mono (by simp; omega))).trans (HBwb.out.mono (by omega))).trans (HBwc.out.mono (by omega))).trans (HBwd.out.mono (by omega)))
  have HF := Lib.hid (fun v0 v1 v2 => fin3 hN (by omega) HX.out HNwd.out (HNwc.out.below HBwd.out) HBB.out v0 v1 v2)
  go_wp2_with fail
  exact bodyPost_ret (v := .agg #[.bool (decide (q.num < 0)), .slice rd (nlen q.num.natAbs) cd', .slice rc (nlen q.den) cc']) (by simp [results, Tryd.results54, go_sem, hcwa, hcwb, hcwc, hcwd, hzwa1, hzwb1, hzwc1]) rfl ⟨_, _, _, _, rfl, (HF.out _ _ _).1, (HF.out _ _ _).2.1, (HF.out _ _ _).2.2⟩
  
/-- numerator and denominator, the denominator not 0 -/
def PartsPost (N : Nat) (w : World) (q : Rat) (L : Nat) (e : Ending) (w' : World) : Prop :=
  ∃ s a na ca d nd cd mn md, e = .returned (.tuple #[.agg #[.bool s, .slice a na ca], .slice d nd cd]) ∧ Nt N w' a na ca mn ∧ Nt N w' d nd cd md ∧ 0 < md ∧ mkRat (zI s mn) md = q ∧ na ≤ L ∧ nd ≤ L ∧ Below w.heap.size w w'

theorem cmp0 (m : Nat) (h : 0 < m) : (cmpN m 0 == 0) = false := by rw [cmpN_zero, if_pos h]; rfl
theorem cmp00 : (cmpN 0 0 == 0) = true := rfl

set_option maxHeartbeats 2000000 in
theorem parts_any {N : Nat} (s : Bool) (a d : Option Addr) (na ca nd cd L : Nat) (q : Rat) (w : World) (hN : N ≤ w.heap.size) (h : Rt N w s a na ca d nd cd q L) :
    Calls Tryd.prog 33 #[.agg #[.bool s, .slice a na ca, .slice d nd cd]] w (PartsPost N w q L) := by
  obtain ⟨l0, l1, l2, mn, md, hn, hd, hq⟩ := h
  have HA := Lib.hid ((hn.alloc (.cells #[.bool s, .slice a na ca, .slice d nd cd] 30)).alloc (.cells #[.bool false, .slice none 0 0] 28))
  have HD := Lib.hid ((hd.alloc (.cells #[.bool s, .slice a na ca, .slice d nd cd] 30)).alloc (.cells #[.bool false, .slice none 0 0] 28))
  clear hn hd
  rcases Nat.eq_zero_or_pos md with h0 | h0
  · subst h0
    rw [Rat.mkRat_zero] at hq
    have HQ := Lib.hid hq
    have hc0 := cmp00
    clear hq
    go_enter Tryd.func33, Tryd.ntmps33
    go_wp2_with fail
    refine (cmp_any (N := N) _ _ _ _ 0 _ _ 0 _ HD.out (Nt.zero _ _)).mono ?_
    rintro e w1 ⟨rfl, q1, rfl⟩
    go_wp2_with fail
    refine (of_any (N := N) 1 _ (by omega)).mono ?_
    rintro e wb ⟨rb, cb', rfl, hn, hb⟩
    obtain ⟨hcwb, hfwb⟩ := bcell hb
    have hzwb0 : w.heap.size < wb.heap.size := by have := hb.size; (try simp at this); omega
    have hzwb1 : w.heap.size + 1 < wb.heap.size := by have := hb.size; (try simp at this); omega
    have HBwb := Lib.hid hb
    have HNwb := Lib.hid hn
    clear hb hn
    have HX := Lib.hid ((Bx.new' (w.alloc (.cells #[.bool s, .slice a na ca, .slice d nd cd] 30)) #[.bool false, .slice none 0 0] 28 (w.heap.size + 1) (by simp)).below (bel_of_drewN HBwb.out))
    have HBB := Lib.hid ((bel2 w _ _).trans ((bel_of_drewN HBwb.out).mono (by simp; omega)))
    have HF := Lib.hid (fun v0 v1 => fin2 hN (by omega) HX.out HNwb.out HBB.out v0 v1)
    go_wp2_with fail
    exact bodyPost_ret (v := .tuple #[.agg #[.bool false, .slice none 0 0], .slice rb (nlen 1) cb']) (by simp [results, Tryd.results33, go_sem, hcwb]) rfl ⟨_, _, _, _, _, _, _, 0, 1, rfl, Nt.zero _ _, (HF.out _ _).1, by omega, by rw [← HQ.out]; rfl, by omega, Nat.le_trans (nlen_small (by decide)) l0, (HF.out _ _).2⟩
  · have hc0 := cmp0 md h0
    have HQ := Lib.hid hq
    clear hq
    go_enter Tryd.func33, Tryd.ntmps33
    go_wp2_with fail
    refine (cmp_any (N := N) _ _ _ _ md _ _ 0 _ HD.out (Nt.zero _ _)).mono ?_
    rintro e w1 ⟨rfl, q1, rfl⟩
    go_wp2_with fail
    go_region
    go_wp2_with fail
    have hx : ∀ k, Bx (((w.alloc (.cells #[.bool s, .slice a na ca, .slice d nd cd] 30)).alloc (.cells #[.bool false, .slice none 0 0] 28)).drewN k) (w.heap.size + 1) 28 := fun k => Bx.new' (w.alloc (.cells #[.bool s, .slice a na ca, .slice d nd cd] 30)) #[.bool false, .slice none 0 0] 28 (w.heap.size + 1) (by simp)
    have hbel : ∀ k, Below w.heap.size w (((w.alloc (.cells #[.bool s, .slice a na ca, .slice d nd cd] 30)).alloc (.cells #[.bool false, .slice none 0 0] 28)).drewN k) := fun k => below_drewN (bel2 w _ _) k
    have f1 := fun k v0 v1 => fin2 hN (by omega) (hx k) (HA.out.below (bel_drewN _ _ k)) (hbel k) v0 v1
    have f2 := fun k v0 v1 => fin2 hN (by omega) (hx k) (HD.out.below (bel_drewN _ _ k)) (hbel k) v0 v1
    exact bodyPost_ret (v := .tuple #[.agg #[.bool s, .slice a na ca], .slice d nd cd]) (by simp [results, Tryd.results33, go_sem]) rfl ⟨_, _, _, _, _, _, _, mn, md, rfl, (f1 _ _ _).1, (f2 _ _ _).1, h0, HQ.out, l1, l2, (f1 _ _ _).2⟩

end Go.Proofs.YtnillajhhimeiaaDoor
