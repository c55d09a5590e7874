/- Contracts of the reference's rational numbers: zero, top, low, reduce, Make, Of, Sign: for at most 2^36 limbs in a part. -/
import Derived.Test.YtnidfpilmmhniaaRefI
import Derived.Test.YtnidfpilmmhniaaRatF
namespace Go.Proofs.Ytnidfpilmmhniaa
open Go.RowKit

/-- numerator and denominator as top and low have them -/
def tz (s : Bool) (mn md : Nat) : Int := if md = 0 then 0 else zI s mn
def dl (md : Nat) : Nat := if md = 0 then 1 else md
theorem dl_pos (md : Nat) : 0 < dl md := by unfold dl; split <;> omega
theorem tz_dl (s : Bool) (mn md : Nat) : mkRat (tz s mn md) (dl md) = mkRat (zI s mn) md := by
  unfold tz dl
  split
  · rename_i h; subst h; rw [Rat.mkRat_zero]; rfl
  · rfl
theorem tz_len {s : Bool} {mn md L : Nat} (h : nlen mn ≤ L) : nlen (tz s mn md).natAbs ≤ L := by
  unfold tz
  split
  · show nlen 0 ≤ L; rw [nlen_zero]; omega
  · rw [zI_abs]; exact h
theorem dl_len {md L : Nat} (h : nlen md ≤ L) (h1 : 1 ≤ L) : nlen (dl md) ≤ L := by
  unfold dl
  split
  · exact Nat.le_trans (nlen_small (by decide)) h1
  · exact h
theorem bl0 {m : Nat} (h : m = 0) : ((bl m : Int) == 0) = true := by rw [bl_eq_zero.2 h]; rfl
theorem bl1 {m : Nat} (h : 0 < m) : ((bl m : Int) == 0) = false := by
  have : bl m ≠ 0 := fun e => by rw [bl_eq_zero] at e; omega
  simp; omega

set_option maxHeartbeats 1000000 in
theorem xrzero_any {N : Nat} (w : World) (hN : N ≤ w.heap.size) : Calls Try.prog 142 #[] w (RatPost N w 0) := by
  have HZ := Lib.hid nlen_zero
  go_enter Try.func142, Try.ntmps142
  go_wp2_with fail
  refine (xof_any (N := N) 1 _ (by omega)).mono ?_
  rintro e wb ⟨rb, cb', rfl, hn, hb⟩
  obtain ⟨hcwb, hfwb⟩ := bcell hb
  have hzwb0 : w.heap.size < wb.heap.size := by have := hb.size; (try simp at this); omega
  have HBwb := Lib.hid hb
  have HNwb := Lib.hid hn
  clear hb hn
  have HX := Lib.hid ((Bx.new w #[.bool false, .slice none 0 0, .slice none 0 0] 29).below HBwb.out)
  have HF := Lib.hid (fun v0 v1 v2 => fin3 hN (Nat.le_refl _) HX.out (Nt.zero N wb) HNwb.out ((bel1 w _).trans (HBwb.out.mono (by simp))) v0 v1 v2)
  go_wp2_with fail
  refine bodyPost_ret (v := .agg #[.bool false, .slice none 0 0, .slice rb (nlen 1) cb']) (by simp [results, Try.results142, go_sem, hcwb]) rfl ?_
  refine ⟨none, 0, rb, cb', ?_, ?_, (HF.out _ _ _).2.1, (HF.out _ _ _).2.2⟩
  · show _ = Ending.returned (.agg #[.bool (decide ((0 : Rat).num < 0)), .slice none (nlen 0) 0, .slice rb (nlen 1) cb'])
    rw [HZ.out]; rfl
  · show Nt N _ none (nlen 0) 0 0
    rw [HZ.out]; exact (HF.out _ _ _).1

theorem xiof_zero {N : Nat} (z : Int) (w : World) (hN : N ≤ w.heap.size) (hz : (0 : Int) = z) :
    Calls Try.prog 118 #[.int .i64 0] w fun e w' => ∃ r cr, e = .returned (.agg #[.bool (decide (z < 0)), .slice r (nlen z.natAbs) cr]) ∧ Nt N w' r (nlen z.natAbs) cr z.natAbs ∧ Below w.heap.size w w' := by
  subst hz; exact xiof_any 0 w hN (by omega) (by omega)

set_option maxHeartbeats 2000000 in
theorem xtop_any {N : Nat} (s : Bool) (a d : Option Addr) (na ca mn nd cd md : Nat) (w : World) (hN : N ≤ w.heap.size) (ha : Nt N w a na ca mn) (hd : Nt N w d nd cd md) (la : na ≤ 137438953472) (ld : nd ≤ 137438953472) (z : Int) (hz : tz s mn md = z) :
    Calls Try.prog 109 #[.agg #[.bool s, .slice a na ca, .slice d nd cd]] w fun e w' => ∃ r cr, e = .returned (.agg #[.bool (decide (z < 0)), .slice r (nlen z.natAbs) cr]) ∧ Nt N w' r (nlen z.natAbs) cr z.natAbs ∧ Below w.heap.size w w' := by
  have HA := Lib.hid ((ha.alloc (.cells #[.bool s, .slice a na ca, .slice d nd cd] 29)).alloc (.cells #[.bool false, .slice none 0 0] 27))
  have HD := Lib.hid ((hd.alloc (.cells #[.bool s, .slice a na ca, .slice d nd cd] 29)).alloc (.cells #[.bool false, .slice none 0 0] 27))
  clear ha hd
  rcases Nat.eq_zero_or_pos md with h0 | h0
  · have hb0 := bl0 h0
    have HZ := Lib.hid (show (0 : Int) = z by rw [← hz]; unfold tz; rw [if_pos h0])
    clear hz h0
    go_enter Try.func109, Try.ntmps109
    go_wp2_with fail
    refine (bits_any (N := N) _ _ _ md _ HD.out (by omega)).mono ?_
    rintro e wa ⟨rfl, hb⟩
    obtain ⟨hcwa, hfwa⟩ := bcell hb
    have hzwa0 : w.heap.size < wa.heap.size := by have := hb.size; (try simp at this); omega
    have hzwa1 : w.heap.size + 1 < wa.heap.size := by have := hb.size; (try simp at this); omega
    have HBwa := Lib.hid hb
    clear hb 
    go_wp2_with fail
    refine (xiof_zero (N := N) z _ (by omega) HZ.out).mono ?_
    rintro e wb ⟨rb, cb', rfl, hn, hb⟩
    obtain ⟨hcwb, hfwb⟩ := bcell hb
    have hzwb0 : w.heap.size < wb.heap.size := by have := hb.size; (try simp at this); omega
    have hzwb1 : w.heap.size + 1 < wb.heap.size := by have := hb.size; (try simp at this); omega
    have HBwb := Lib.hid hb
    have HNwb := Lib.hid hn
    clear hb hn
    have HX := Lib.hid (((Bx.new' (w.alloc (.cells #[.bool s, .slice a na ca, .slice d nd cd] 29)) #[.bool false, .slice none 0 0] 27 (w.heap.size + 1) (by simp)).below HBwa.out).below HBwb.out)
    have HF := Lib.hid (fun v0 v1 => fin2 hN (by omega) HX.out HNwb.out (((bel2 w _ _).trans (HBwa.out.mono (by first | omega | (simp; done) | (simp; omega)))).trans (HBwb.out.mono (by first | omega | (simp; done) | (simp; omega)))) v0 v1)
    go_wp2_with fail
    exact bodyPost_ret (v := .agg #[.bool (decide (z < 0)), .slice rb (nlen z.natAbs) cb']) (by simp [results, Try.results109, go_sem, hcwa, hcwb, hzwa1]) rfl ⟨_, _, rfl, (HF.out _ _).1, (HF.out _ _).2⟩
  · have hb0 := bl1 h0
    have HZ := Lib.hid (show zI s mn = z by rw [← hz]; unfold tz; rw [if_neg (by omega)])
    clear hz
    go_enter Try.func109, Try.ntmps109
    go_wp2_with fail
    refine (bits_any (N := N) _ _ _ md _ HD.out (by omega)).mono ?_
    rintro e wa ⟨rfl, hb⟩
    obtain ⟨hcwa, hfwa⟩ := bcell hb
    have hzwa0 : w.heap.size < wa.heap.size := by have := hb.size; (try simp at this); omega
    have hzwa1 : w.heap.size + 1 < wa.heap.size := by have := hb.size; (try simp at this); omega
    have HBwa := Lib.hid hb
    clear hb 
    go_wp2_with fail
    refine (xinorm_any (N := N) _ _ _ _ mn _ (by omega) (HA.out.below HBwa.out) (by omega) z HZ.out).mono ?_
    rintro e wb ⟨rb, cb', rfl, hn, hb⟩
    obtain ⟨hcwb, hfwb⟩ := bcell hb
    have hzwb0 : w.heap.size < wb.heap.size := by have := hb.size; (try simp at this); omega
    have hzwb1 : w.heap.size + 1 < wb.heap.size := by have := hb.size; (try simp at this); omega
    have HBwb := Lib.hid hb
    have HNwb := Lib.hid hn
    clear hb hn
    have HX := Lib.hid (((Bx.new' (w.alloc (.cells #[.bool s, .slice a na ca, .slice d nd cd] 29)) #[.bool false, .slice none 0 0] 27 (w.heap.size + 1) (by simp)).below HBwa.out).below HBwb.out)
    have HF := Lib.hid (fun v0 v1 => fin2 hN (by omega) HX.out HNwb.out (((bel2 w _ _).trans (HBwa.out.mono (by first | omega | (simp; done) | (simp; omega)))).trans (HBwb.out.mono (by first | omega | (simp; done) | (simp; omega)))) v0 v1)
    go_wp2_with fail
    exact bodyPost_ret (v := .agg #[.bool (decide (z < 0)), .slice rb (nlen z.natAbs) cb']) (by simp [results, Try.results109, go_sem, hcwa, hcwb, hzwa1]) rfl ⟨_, _, rfl, (HF.out _ _).1, (HF.out _ _).2⟩

set_option maxHeartbeats 2000000 in
theorem xlow_any {N : Nat} (s : Bool) (a d : Option Addr) (na ca mn nd cd md : Nat) (w : World) (_hN : N ≤ w.heap.size) (ha : Nt N w a na ca mn) (hd : Nt N w d nd cd md) (_la : na ≤ 137438953472) (ld : nd ≤ 137438953472) :
    Calls Try.prog 111 #[.agg #[.bool s, .slice a na ca, .slice d nd cd]] w fun e w' => ∃ r cr, e = .returned (.slice r (nlen (dl md)) cr) ∧ Nt N w' r (nlen (dl md)) cr (dl md) ∧ Below w.heap.size w w' := by
  have HA := Lib.hid (ha.alloc (.cells #[.bool s, .slice a na ca, .slice d nd cd] 29))
  have HD := Lib.hid (hd.alloc (.cells #[.bool s, .slice a na ca, .slice d nd cd] 29))
  clear ha hd
  rcases Nat.eq_zero_or_pos md with h0 | h0
  · have hb0 := bl0 h0
    have HDL := Lib.hid (show dl md = 1 by unfold dl; rw [if_pos h0])
    clear h0
    go_enter Try.func111, Try.ntmps111
    go_wp2_with fail
    refine (bits_any (N := N) _ _ _ md _ HD.out (by omega)).mono ?_
    rintro e wa ⟨rfl, hb⟩
    obtain ⟨hcwa, hfwa⟩ := bcell hb
    have hzwa0 : w.heap.size < wa.heap.size := by have := hb.size; (try simp at this); omega
    have HBwa := Lib.hid hb
    clear hb 
    go_wp2_with fail
    refine (xof_any (N := N) 1 _ (by omega)).mono ?_
    rintro e wb ⟨rb, cb', rfl, hn, hb⟩
    obtain ⟨hcwb, hfwb⟩ := bcell hb
    have hzwb0 : w.heap.size < wb.heap.size := by have := hb.size; (try simp at this); omega
    have HBwb := Lib.hid hb
    have HNwb := Lib.hid hn
    clear hb hn
    go_wp2_with fail
    go_ret
    rw [HDL.out]
    exact ⟨_, _, rfl, HNwb.out, (((bel1 w _).trans (HBwa.out.mono (by first | omega | (simp; done) | (simp; omega)))).trans (HBwb.out.mono (by first | omega | (simp; done) | (simp; omega))))⟩
  · have hb0 := bl1 h0
    have HDL := Lib.hid (show dl md = md by unfold dl; rw [if_neg (by omega)])
    go_enter Try.func111, Try.ntmps111
    go_wp2_with fail
    refine (bits_any (N := N) _ _ _ md _ HD.out (by omega)).mono ?_
    rintro e wa ⟨rfl, hb⟩
    obtain ⟨hcwa, hfwa⟩ := bcell hb
    have hzwa0 : w.heap.size < wa.heap.size := by have := hb.size; (try simp at this); omega
    have HBwa := Lib.hid hb
    clear hb 
    go_wp2_with fail
    refine (xnorm_any (N := N) _ _ _ md _ (HD.out.below HBwa.out) (by omega)).mono ?_
    rintro e wb ⟨rb, cb', rfl, hn, hb⟩
    obtain ⟨hcwb, hfwb⟩ := bcell hb
    have hzwb0 : w.heap.size < wb.heap.size := by have := hb.size; (try simp at this); omega
    have HBwb := Lib.hid hb
    have HNwb := Lib.hid hn
    clear hb hn
    go_wp2_with fail
    go_ret
    rw [HDL.out]
    exact ⟨_, _, rfl, HNwb.out, (((bel1 w _).trans (HBwa.out.mono (by first | omega | (simp; done) | (simp; omega)))).trans (HBwb.out.mono (by first | omega | (simp; done) | (simp; omega))))⟩

theorem mk_norm (z : Int) (md : Nat) (q : Rat) (h : mkRat z md = q) : mkRat (zI (decide (z < 0)) z.natAbs) md = q := by rw [zI_norm]; exact h
set_option maxHeartbeats 4000000 in
theorem xreduce_any {N : Nat} (s : Bool) (a d : Option Addr) (na ca mn nd cd md : Nat) (w : World) (hN : N ≤ w.heap.size) (ha : Nt N w a na ca mn) (hd : Nt N w d nd cd md) (la : na ≤ 274877906944) (ld : nd ≤ 274877906944) (hmd : 0 < md) (q : Rat) (hq : mkRat (zI s mn) md = q) :
    Calls Try.prog 107 #[.agg #[.bool s, .slice a na ca], .slice d nd cd] w (RatPost N w q) := by
  obtain ⟨z, hz⟩ : ∃ z, zI s mn = z := ⟨_, rfl⟩
  obtain ⟨sz, hsz⟩ : ∃ b, decide (z < 0) = b := ⟨_, rfl⟩
  obtain ⟨mz, hmz⟩ : ∃ b, z.natAbs = b := ⟨_, rfl⟩
  have hq2 : mkRat (zI sz mz) md = q := by rw [← hsz, ← hmz]; exact mk_norm z md q (by rw [← hz]; exact hq)
  have lz : nlen mz ≤ 274877906944 := by rw [← hmz, ← hz, zI_abs]; exact nlen_bound ha _ la
  have HZ := Lib.hid hz
  have HSZ := Lib.hid hsz
  have HMZ := Lib.hid hmz
  have q1 := red_num sz mz md hmd
  have q2 := red_den sz mz md hmd
  rw [hq2] at q1 q2
  have hg : 0 < Nat.gcd mz md := Nat.gcd_pos_of_pos_right _ hmd
  have lm := nlen_mono (Nat.div_le_self mz (Nat.gcd mz md))
  have lg := nlen_mono (Nat.le_of_dvd hmd (Nat.gcd_dvd_right mz md))
  have ld2 := nlen_bound hd _ ld
  have HA := Lib.hid ((ha.alloc (.cells #[.bool s, .slice a na ca] 27)).alloc (.cells #[.bool false, .slice none 0 0, .slice none 0 0] 29))
  have HD := Lib.hid ((hd.alloc (.cells #[.bool s, .slice a na ca] 27)).alloc (.cells #[.bool false, .slice none 0 0, .slice none 0 0] 29))
  have HQ1 := Lib.hid q1
  have HQ2 := Lib.hid q2
  have HQ := Lib.hid hq2
  clear ha hd hq hq2 q1 q2 hz hsz hmz
  go_enter Try.func107, Try.ntmps107
  go_wp2_with fail
  refine (xinorm_any (N := N) _ _ _ _ mn _ (by simp; omega) HA.out (by omega) z HZ.out).mono ?_
  rw [HSZ.out, HMZ.out]
  rintro e wa ⟨ra, ca', rfl, hn, hb⟩
  obtain ⟨hcwa, hfwa⟩ := bcell hb
  have hzwa0 : w.heap.size < wa.heap.size := by have := hb.size; (try simp at this); omega
  have hzwa1 : w.heap.size + 1 < wa.heap.size := by have := hb.size; (try simp at this); omega
  have HBwa := Lib.hid hb
  have HNwa := Lib.hid hn
  clear hb hn
  have HNA := Lib.hid (HNwa.out.alloc (.cells #[.bool sz, .slice ra (nlen mz) ca'] 27))
  have HDA := Lib.hid ((HD.out.below HBwa.out).alloc (.cells #[.bool sz, .slice ra (nlen mz) ca'] 27))
  go_wp2_with fail
  refine (bits_any (N := N) _ _ _ mz _ HNA.out (by omega)).mono ?_
  rintro e wb ⟨rfl, hb⟩
  obtain ⟨hcwb, hfwb⟩ := bcell hb
  have hzwb0 : w.heap.size < wb.heap.size := by have := hb.size; (try simp at this); omega
  have hzwb1 : w.heap.size + 1 < wb.heap.size := by have := hb.size; (try simp at this); omega
  have hzwb2 : wa.heap.size < wb.heap.size := by have := hb.size; (try simp at this); omega
  have HBwb := Lib.hid hb
  clear hb 
  rcases Nat.eq_zero_or_pos mz with h0 | h0
  · have hb0 := bl0 h0
    have HQ0 := Lib.hid (show (0 : Rat) = q by rw [← HQ.out, h0]; unfold zI; cases sz <;> simp)
    clear h0
    go_wp2_with fail
    refine (xrzero_any (N := N) _ (by omega)).mono ?_
    rw [HQ0.out]
    rintro e wc ⟨rx, cx, rx2, cx2, rfl, hn, hn', hb⟩
    obtain ⟨hcwc, hfwc⟩ := bcell hb
    have hzwc0 : w.heap.size < wc.heap.size := by have := hb.size; (try simp at this); omega
    have hzwc1 : w.heap.size + 1 < wc.heap.size := by have := hb.size; (try simp at this); omega
    have hzwc2 : wa.heap.size < wc.heap.size := by have := hb.size; (try simp at this); omega
    have HBwc := Lib.hid hb
    have HNwc := Lib.hid hn
    have HN'wc := Lib.hid hn'
    clear hb hn hn'
    have HX := Lib.hid ((((Bx.new' (w.alloc (.cells #[.bool s, .slice a na ca] 27)) #[.bool false, .slice none 0 0, .slice none 0 0] 29 (w.heap.size + 1) (by simp)).below HBwa.out).below (bel_of_alloc HBwb.out)).below HBwc.out)
    have HF := Lib.hid (fun v0 v1 v2 => fin3 hN (by omega) HX.out HNwc.out HN'wc.out ((((bel2 w _ _).trans (HBwa.out.mono (by first | omega | (simp; done) | (simp; omega)))).trans ((bel_of_alloc HBwb.out).mono (by first | omega | (simp; done) | (simp; omega)))).trans (HBwc.out.mono (by first | omega | (simp; done) | (simp; omega)))) v0 v1 v2)
    go_wp2_with fail
    exact bodyPost_ret (v := .agg #[.bool (decide ((q).num < 0)), .slice rx (nlen (q).num.natAbs) cx, .slice rx2 (nlen (q).den) cx2]) (by simp [results, Try.results107, go_sem, hcwa, hcwb, hcwc, hzwa0, hzwa1, hzwb1]) rfl ⟨_, _, _, _, rfl, (HF.out _ _ _).1, (HF.out _ _ _).2.1, (HF.out _ _ _).2.2⟩
  · have hb0 := bl1 h0
    go_wp2_with fail
    refine (xgcd_any (N := N) _ _ _ _ mz _ _ md _ (by omega) (HNA.out.below HBwb.out) (HDA.out.below HBwb.out) (by omega) ld).mono ?_
    rintro e wc ⟨rc, cc', rfl, hn, hb⟩
    obtain ⟨hcwc, hfwc⟩ := bcell hb
    have hzwc0 : w.heap.size < wc.heap.size := by have := hb.size; (try simp at this); omega
    have hzwc1 : w.heap.size + 1 < wc.heap.size := by have := hb.size; (try simp at this); omega
    have hzwc2 : wa.heap.size < wc.heap.size := by have := hb.size; (try simp at this); omega
    have HBwc := Lib.hid hb
    have HNwc := Lib.hid hn
    clear hb hn
    go_wp2_with fail
    refine (xdivMod_any (N := N) _ _ _ _ mz _ _ (Nat.gcd mz md) _ (by omega) ((HNA.out.below HBwb.out).below HBwc.out) HNwc.out (by omega) (by omega) hg).mono ?_
    rintro e wd ⟨rd, cd', rd2, cd2, rfl, hn, _, hb⟩
    obtain ⟨hcwd, hfwd⟩ := bcell hb
    have hzwd0 : w.heap.size < wd.heap.size := by have := hb.size; (try simp at this); omega
    have hzwd1 : w.heap.size + 1 < wd.heap.size := by have := hb.size; (try simp at this); omega
    have hzwd2 : wa.heap.size < wd.heap.size := by have := hb.size; (try simp at this); omega
    have HBwd := Lib.hid hb
    have HNwd := Lib.hid hn
    clear hb hn
    go_wp2_with fail
    refine (xdivMod_any (N := N) _ _ _ _ md _ _ (Nat.gcd mz md) _ (by omega) (((HDA.out.below HBwb.out).below HBwc.out).below HBwd.out) (HNwc.out.below HBwd.out) ld (by omega) hg).mono ?_
    rw [← HQ2.out]
    rintro e we ⟨re, ce', re2, ce2, rfl, hn, _, hb⟩
    obtain ⟨hcwe, hfwe⟩ := bcell hb
    have hzwe0 : w.heap.size < we.heap.size := by have := hb.size; (try simp at this); omega
    have hzwe1 : w.heap.size + 1 < we.heap.size := by have := hb.size; (try simp at this); omega
    have hzwe2 : wa.heap.size < we.heap.size := by have := hb.size; (try simp at this); omega
    have HBwe := Lib.hid hb
    have HNwe := Lib.hid hn
    clear hb hn
    go_wp2_with fail
    refine (xmake_z (N := N) sz _ _ _ (mz / Nat.gcd mz md) _ (by omega) (HNwd.out.below HBwe.out) (by omega) q.num HQ1.out.symm).mono ?_
    rintro e wf ⟨rf, cf', rfl, hn, hb⟩
    obtain ⟨hcwf, hfwf⟩ := bcell hb
    have hzwf0 : w.heap.size < wf.heap.size := by have := hb.size; (try simp at this); omega
    have hzwf1 : w.heap.size + 1 < wf.heap.size := by have := hb.size; (try simp at this); omega
    have hzwf2 : wa.heap.size < wf.heap.size := by have := hb.size; (try simp at this); omega
    have HBwf := Lib.hid hb
    have HNwf := Lib.hid hn
    clear hb hn
    have HX := Lib.hid (((((((Bx.new' (w.alloc (.cells #[.bool s, .slice a na ca] 27)) #[.bool false, .slice none 0 0, .slice none 0 0] 29 (w.heap.size + 1) (by simp)).below HBwa.out).below (bel_of_alloc HBwb.out)).below HBwc.out).below HBwd.out).below HBwe.out).below HBwf.out)
    have HF := Lib.hid (fun v0 v1 v2 => fin3 hN (by omega) HX.out HNwf.out (HNwe.out.below HBwf.out) (((((((bel2 w _ _).trans (HBwa.out.mono (by first | omega | (simp; done) | (simp; omega)))).trans ((bel_of_alloc HBwb.out).mono (by first | omega | (simp; done) | (simp; omega)))).trans (HBwc.out.mono (by first | omega | (simp; done) | (simp; omega)))).trans (HBwd.out.mono (by first | omega | (simp; done) | (simp; omega)))).trans (HBwe.out.mono (by first | omega | (simp; done) | (simp; omega)))).trans (HBwf.out.mono (by first | omega | (simp; done) | (simp; omega)))) v0 v1 v2)
    go_wp2_with fail
    exact bodyPost_ret (v := .agg #[.bool (decide (q.num < 0)), .slice rf (nlen q.num.natAbs) cf', .slice re (nlen q.den) ce']) (by simp [results, Try.results107, go_sem, hcwa, hcwb, hcwc, hcwd, hcwe, hcwf, hzwa0, hzwa1, hzwb1, hzwc1, hzwd1, hzwe1]) rfl ⟨_, _, _, _, rfl, (HF.out _ _ _).1, (HF.out _ _ _).2.1, (HF.out _ _ _).2.2⟩

set_option maxHeartbeats 2000000 in
theorem xrsign_any {N : Nat} (s : Bool) (a d : Option Addr) (na ca nd cd L : Nat) (q : Rat) (w : World) (hN : N ≤ w.heap.size) (h : Rt N w s a na ca d nd cd q L) (hL : L ≤ 137438953472) :
    Calls Try.prog 98 #[.agg #[.bool s, .slice a na ca, .slice d nd cd]] w fun e w' => e = .returned (.int .i64 q.num.sign) ∧ Below w.heap.size w w' := by
  obtain ⟨l0, l1, l2, mn, md, ha, hd, hq⟩ := h
  obtain ⟨z, hz⟩ : ∃ z, tz s mn md = z := ⟨_, rfl⟩
  have HE := Lib.hid (show z.sign = q.num.sign by
    have h1 := sgn_mk (decide (z < 0)) z.natAbs (dl md) (dl_pos md)
    rw [zI_norm] at h1
    rw [h1, ← hz, tz_dl, hq])
  have lz : nlen z.natAbs ≤ L := by rw [← hz]; exact tz_len (nlen_bound ha _ l1)
  have HZ := Lib.hid hz
  have HA := Lib.hid (ha.alloc (.cells #[.bool s, .slice a na ca, .slice d nd cd] 29))
  have HD := Lib.hid (hd.alloc (.cells #[.bool s, .slice a na ca, .slice d nd cd] 29))
  clear ha hd hq hz
  go_enter Try.func98, Try.ntmps98
  go_wp2_with fail
  refine (xtop_any (N := N) _ _ _ _ _ mn _ _ md _ (by simp; omega) HA.out HD.out (by omega) (by omega) z HZ.out).mono ?_
  rintro e wa ⟨ra, ca', rfl, hn, hb⟩
  obtain ⟨hcwa, hfwa⟩ := bcell hb
  have hzwa0 : w.heap.size < wa.heap.size := by have := hb.size; (try simp at this); omega
  have HBwa := Lib.hid hb
  have HNwa := Lib.hid hn
  clear hb hn
  go_wp2_with fail
  refine (xisign_any (N := N) _ _ _ _ z.natAbs _ (by omega) HNwa.out (by omega) z (zI_norm z)).mono ?_
  rw [HE.out]
  rintro e wb ⟨rfl, hb⟩
  obtain ⟨hcwb, hfwb⟩ := bcell hb
  have hzwb0 : w.heap.size < wb.heap.size := by have := hb.size; (try simp at this); omega
  have HBwb := Lib.hid hb
  clear hb 
  go_wp2_with fail
  go_ret
  exact ⟨rfl, (((bel1 w _).trans (HBwa.out.mono (by first | omega | (simp; done) | (simp; omega)))).trans (HBwb.out.mono (by first | omega | (simp; done) | (simp; omega))))⟩

end Go.Proofs.Ytnidfpilmmhniaa
