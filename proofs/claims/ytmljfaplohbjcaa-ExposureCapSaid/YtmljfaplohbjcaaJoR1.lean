/- What it means that a struct is a rational number; contracts of ratio.whole, zero, parts and reduce. Contracts of ratio.zero, parts and reduce. Contracts of ratio.Sign, Norm, Neg, Mul and Cmp: for rational numbers of at most 2^36 limbs in a part. Contracts of ratio.Cmp and Add: for rational numbers of at most 2^36 limbs in a part. A region whose order is open, by one step for each operation: whatever order is drawn, an invariant that each operation keeps holds at the end. No program in sight. Contract of ratio.Add: for rational numbers of at most 2^36 limbs in a part. Contracts of ratio.Make and Of. A rational number in a value or in a box of its own: what a region that draws its order leaves behind. How many limbs sums and products of rational numbers have. Contracts of ratio.Sub and Div: for rational numbers of at most 2^36 limbs in a part. What a walk keeps: worlds by name, old blocks and rows of limbs. No condition. -/
import Derived.Test.YtmljfaplohbjcaaJoN2
import Derived.Orders
import Derived.Tactics
import Derived.WalkKit
import Derived.Deep.DeepCutAuto
namespace Go.Proofs.Ytmljfaplohbjcaa
open Go.RowKit

/-- the ratio with numerator s, a and denominator d is q; both have at most L limbs -/
def Rt (N : Nat) (w : World) (s : Bool) (a : Option Addr) (na ca : Nat) (d : Option Addr) (nd cd : Nat) (q : Rat) (L : Nat) : Prop :=
  1 ≤ L ∧ na ≤ L ∧ nd ≤ L ∧ ∃ mn md, Nt N w a na ca mn ∧ Nt N w d nd cd md ∧ mkRat (zI s mn) md = q
/-- how many limbs the normal form has at most in a part -/
def rsz (q : Rat) : Nat := max (nlen q.num.natAbs) (nlen q.den)
/-- it returns the normal form of q -/
def RatPost (N : Nat) (w : World) (q : Rat) (e : Ending) (w' : World) : Prop :=
  ∃ r cr r2 cr2, e = .returned (.agg #[.bool (decide (q.num < 0)), .slice r (nlen q.num.natAbs) cr, .slice r2 (nlen q.den) cr2]) ∧ Nt N w' r (nlen q.num.natAbs) cr q.num.natAbs ∧ Nt N w' r2 (nlen q.den) cr2 q.den ∧ Below w.heap.size w w'

theorem Rt.below {N : Nat} {w w' : World} {s : Bool} {a d : Option Addr} {na ca nd cd L : Nat} {q : Rat} (h : Rt N w s a na ca d nd cd q L) (hb : Below w.heap.size w w') : Rt N w' s a na ca d nd cd q L := by
  obtain ⟨h0, h1, h2, mn, md, h3, h4, h5⟩ := h
  exact ⟨h0, h1, h2, mn, md, h3.below hb, h4.below hb, h5⟩
theorem Rt.alloc {N : Nat} {w : World} {s : Bool} {a d : Option Addr} {na ca nd cd L : Nat} {q : Rat} (h : Rt N w s a na ca d nd cd q L) (o : Obj) : Rt N (w.alloc o) s a na ca d nd cd q L :=
  h.below ((Below.refl _ _).alloc (Nat.le_refl _) o)
theorem Rt.set {N : Nat} {w : World} {s : Bool} {a d : Option Addr} {na ca nd cd L : Nat} {q : Rat} (h : Rt N w s a na ca d nd cd q L) {b o : Nat} {T : TypeId} (hN : N ≤ b) (hp : Bx w b T) (hT : T ≠ 90) (v : Value) : Rt N (w.setCell ⟨b, o, none⟩ v) s a na ca d nd cd q L := by
  obtain ⟨h0, h1, h2, mn, md, h3, h4, h5⟩ := h
  exact ⟨h0, h1, h2, mn, md, h3.set hN hp hT v, h4.set hN hp hT v, h5⟩
theorem Rt.mono {N : Nat} {w : World} {s : Bool} {a d : Option Addr} {na ca nd cd L L' : Nat} {q : Rat} (h : Rt N w s a na ca d nd cd q L) (hL : L ≤ L') : Rt N w s a na ca d nd cd q L' := by
  obtain ⟨h0, h1, h2, h3⟩ := h
  exact ⟨by omega, by omega, by omega, h3⟩

theorem rsz_pos (q : Rat) : 1 ≤ rsz q := by
  have : nlen q.den ≠ 0 := fun h => by rw [nlen_eq_zero] at h; exact q.den_nz h
  unfold rsz; omega
theorem mkRat_norm (q : Rat) : mkRat (zI (decide (q.num < 0)) q.num.natAbs) q.den = q := by rw [zI_norm, Rat.mkRat_self]
theorem Rt.of_norm {N : Nat} {w : World} {q : Rat} {r r2 : Option Addr} {cr cr2 : Nat} (h1 : Nt N w r (nlen q.num.natAbs) cr q.num.natAbs) (h2 : Nt N w r2 (nlen q.den) cr2 q.den) (L : Nat) (hL : rsz q ≤ L) :
    Rt N w (decide (q.num < 0)) r (nlen q.num.natAbs) cr r2 (nlen q.den) cr2 q L := by
  have := rsz_pos q
  unfold rsz at *
  exact ⟨by omega, by omega, by omega, _, _, h1, h2, mkRat_norm q⟩

/-- the normal form of a fraction -/
theorem red_num (s : Bool) (mn md : Nat) (h : 0 < md) : (mkRat (zI s mn) md).num = zI s (mn / Nat.gcd mn md) := by
  rw [Rat.num_mkRat, if_neg (by omega), zI_abs, Nat.gcd_comm]
  have hd := Nat.gcd_dvd_left mn md
  unfold zI
  cases s
  · simp
  · simp only [if_true]
    rw [Int.neg_ediv_of_dvd (Int.natCast_dvd_natCast.2 hd)]; simp
theorem red_abs (s : Bool) (mn md : Nat) (h : 0 < md) : (mkRat (zI s mn) md).num.natAbs = mn / Nat.gcd mn md := by rw [red_num s mn md h, zI_abs]
theorem red_den (s : Bool) (mn md : Nat) (h : 0 < md) : (mkRat (zI s mn) md).den = md / Nat.gcd mn md := by
  rw [Rat.den_mkRat, if_neg (by omega), zI_abs, Nat.gcd_comm]
theorem rsz_mk (z : Int) (d : Nat) (L : Nat) (h1 : 1 ≤ L) (hz : nlen z.natAbs ≤ L) (hd : nlen d ≤ L) : rsz (mkRat z d) ≤ L := by
  rcases Nat.eq_zero_or_pos d with h | h
  · subst h
    rw [Rat.mkRat_zero]
    have : nlen (0 : Rat).num.natAbs = 0 := nlen_zero
    have h2 : nlen (0 : Rat).den ≤ 1 := nlen_small (by decide)
    unfold rsz; omega
  · have e := zI_norm z
    have a1 := red_abs (decide (z < 0)) z.natAbs d h
    have a2 := red_den (decide (z < 0)) z.natAbs d h
    rw [e] at a1 a2
    unfold rsz
    rw [a1, a2]
    have b1 := nlen_mono (Nat.div_le_self z.natAbs (Nat.gcd z.natAbs d))
    have b2 := nlen_mono (Nat.div_le_self d (Nat.gcd z.natAbs d))
    omega
theorem rsz_of {N : Nat} {w : World} {s : Bool} {a d : Option Addr} {na ca nd cd L : Nat} {q : Rat} (h : Rt N w s a na ca d nd cd q L) : rsz q ≤ L := by
  obtain ⟨h0, h1, h2, mn, md, h3, h4, rfl⟩ := h
  exact rsz_mk _ _ L h0 (by rw [zI_abs]; exact nlen_bound h3 _ h1) (nlen_bound h4 _ h2)

theorem fin3 {N b0 b n m cr n2 m2 cr2 : Nat} {w w1 : World} {r r2 : Option Addr} (hN : N ≤ b0) (hb : b0 ≤ b) (hbx : Bx w1 b 38) (hn : Nt N w1 r n cr m) (hn2 : Nt N w1 r2 n2 cr2 m2) (hbel : Below b0 w w1) (v0 v1 v2 : Value) :
    Nt N (((w1.setCell ⟨b, 0, none⟩ v0).setCell ⟨b, 1, none⟩ v1).setCell ⟨b, 2, none⟩ v2) r n cr m ∧ Nt N (((w1.setCell ⟨b, 0, none⟩ v0).setCell ⟨b, 1, none⟩ v1).setCell ⟨b, 2, none⟩ v2) r2 n2 cr2 m2 ∧ Below b0 w (((w1.setCell ⟨b, 0, none⟩ v0).setCell ⟨b, 1, none⟩ v1).setCell ⟨b, 2, none⟩ v2) :=
  ⟨((hn.set (by omega) hbx (by decide) v0).set (by omega) (hbx.set _ _) (by decide) v1).set (by omega) ((hbx.set _ _).set _ _) (by decide) v2,
   ((hn2.set (by omega) hbx (by decide) v0).set (by omega) (hbx.set _ _) (by decide) v1).set (by omega) ((hbx.set _ _).set _ _) (by decide) v2, ((hbel.setCell hb _).setCell hb _).setCell hb _⟩

set_option maxHeartbeats 1000000 in
theorem whole_any {N : Nat} (a : Option Addr) (n cap m : Nat) (w : World) (hN : N ≤ w.heap.size) (h : Nt N w a n cap m) (hl : n ≤ 1099511627776) :
    Calls Try.prog 34 #[.slice a n cap] w fun e w' => ∃ r cr, e = .returned (.agg #[.bool false, .slice r (nlen m) cr]) ∧ Nt N w' r (nlen m) cr m ∧ Below w.heap.size w w' := by
  have HA := Lib.hid (h.alloc (.cells #[.bool false, .slice none 0 0] 36))
  clear h
  go_enter Try.func34, Try.ntmps34
  go_wp2_with fail
  refine (make_any (N := N) false _ _ _ m _ (by simp; omega) HA.out hl).mono ?_
  rw [Bool.false_and]
  rintro e wb ⟨rb, cb', rfl, hn, hb⟩
  obtain ⟨hcwb, hfwb⟩ := bcell hb
  have hzwb0 : w.heap.size < wb.heap.size := by have := hb.size; simp at this; omega
  have HX := Lib.hid ((Bx.new w #[.bool false, .slice none 0 0] 36).below hb)
  have HF := Lib.hid (fun v0 v1 => fin2 hN (Nat.le_refl _) HX.out hn ((bel1 w _).trans (hb.mono (by simp))) v0 v1)
  clear hn hb
  go_wp2_with fail
  exact bodyPost_ret (v := .agg #[.bool false, .slice rb (nlen m) cb']) (by simp [results, Try.results34, go_sem, hcwb]) rfl ⟨_, _, rfl, (HF.out _ _).1, (HF.out _ _).2⟩

end Go.Proofs.Ytmljfaplohbjcaa

namespace Go.Proofs.Ytmljfaplohbjcaa
open Go.RowKit

theorem one_den : (0 : Rat).den = 1 := rfl
set_option maxHeartbeats 1000000 in
theorem rzero_any {N : Nat} (w : World) (hN : N ≤ w.heap.size) : Calls Try.prog 48 #[] w (RatPost N w 0) := by
  have HZ := Lib.hid nlen_zero
  go_enter Try.func48, Try.ntmps48
  go_wp2_with fail
  refine (of_any (N := N) 1 _ (by omega)).mono ?_
  rintro e wb ⟨rb, cb', rfl, hn, hb⟩
  obtain ⟨hcwb, hfwb⟩ := bcell hb
  have hzwb0 : w.heap.size < wb.heap.size := by have := hb.size; (try simp at this); omega
  have HBwb := Lib.hid hb
  have HNwb := Lib.hid hn
  clear hb hn
  have HX := Lib.hid ((Bx.new w #[.bool false, .slice none 0 0, .slice none 0 0] 38).below HBwb.out)
  have HF := Lib.hid (fun v0 v1 v2 => fin3 hN (Nat.le_refl _) HX.out (Nt.zero N wb) HNwb.out ((bel1 w _).trans (HBwb.out.mono (by simp))) v0 v1 v2)
  go_wp2_with fail
  refine bodyPost_ret (v := .agg #[.bool false, .slice none 0 0, .slice rb (nlen 1) cb']) (by simp [results, Try.results48, go_sem, hcwb]) rfl ?_
  refine ⟨none, 0, rb, cb', ?_, ?_, (HF.out _ _ _).2.1, (HF.out _ _ _).2.2⟩
  · show _ = Ending.returned (.agg #[.bool (decide ((0 : Rat).num < 0)), .slice none (nlen 0) 0, .slice rb (nlen 1) cb'])
    rw [HZ.out]; rfl
  · show Nt N _ none (nlen 0) 0 0
    rw [HZ.out]; exact (HF.out _ _ _).1

set_option maxHeartbeats 2000000 in
theorem reduce_any {N : Nat} (s : Bool) (a d : Option Addr) (na ca mn nd cd md : Nat) (w : World) (hN : N ≤ w.heap.size) (ha : Nt N w a na ca mn) (hd : Nt N w d nd cd md) (la : na ≤ 1099511627776) (ld : nd ≤ 1099511627776) (hmd : 0 < md) (q : Rat) (hq : mkRat (zI s mn) md = q) :
    Calls Try.prog 35 #[.agg #[.bool s, .slice a na ca], .slice d nd cd] w (RatPost N w q) := by
  have q1 := red_num s mn md hmd
  have q2 := red_den s mn md hmd
  rw [hq] at q1 q2
  have hg : 0 < Nat.gcd mn md := Nat.gcd_pos_of_pos_right _ hmd
  have lm := nlen_mono (Nat.div_le_self mn (Nat.gcd mn md))
  have lm2 := nlen_bound ha _ la
  have HA := Lib.hid ((ha.alloc (.cells #[.bool s, .slice a na ca] 36)).alloc (.cells #[.bool false, .slice none 0 0, .slice none 0 0] 38))
  have HD := Lib.hid ((hd.alloc (.cells #[.bool s, .slice a na ca] 36)).alloc (.cells #[.bool false, .slice none 0 0, .slice none 0 0] 38))
  have HQ1 := Lib.hid q1
  have HQ2 := Lib.hid q2
  clear ha hd hq q1 q2
  go_enter Try.func35, Try.ntmps35
  go_wp2_with fail
  refine (gcd_any (N := N) _ _ _ _ mn _ _ md _ (by simp; omega) HA.out HD.out la ld).mono ?_
  rintro e wa ⟨ra, ca', rfl, hn, hb⟩
  obtain ⟨hcwa, hfwa⟩ := bcell hb
  have hzwa0 : w.heap.size < wa.heap.size := by have := hb.size; (try simp at this); omega
  have hzwa1 : w.heap.size + 1 < wa.heap.size := by have := hb.size; (try simp at this); omega
  have HBwa := Lib.hid hb
  have HNwa := Lib.hid hn
  clear hb hn
  go_wp2_with fail
  refine (divMod_any (N := N) _ _ _ _ mn _ _ (Nat.gcd mn md) _ (by omega) (HA.out.below HBwa.out) HNwa.out la hg).mono ?_
  rintro e wb ⟨rb, cb', rb2, cb2, rfl, hn, _, hb⟩
  obtain ⟨hcwb, hfwb⟩ := bcell hb
  have hzwb0 : w.heap.size < wb.heap.size := by have := hb.size; (try simp at this); omega
  have hzwb1 : w.heap.size + 1 < wb.heap.size := by have := hb.size; (try simp at this); omega
  have HBwb := Lib.hid hb
  have HNwb := Lib.hid hn
  clear hb hn
  go_wp2_with fail
  refine (divMod_any (N := N) _ _ _ _ md _ _ (Nat.gcd mn md) _ (by omega) ((HD.out.below HBwa.out).below HBwb.out) (HNwa.out.below HBwb.out) ld hg).mono ?_
  rw [← HQ2.out]
  rintro e wc ⟨rc, cc', rc2, cc2, rfl, hn, _, hb⟩
  obtain ⟨hcwc, hfwc⟩ := bcell hb
  have hzwc0 : w.heap.size < wc.heap.size := by have := hb.size; (try simp at this); omega
  have hzwc1 : w.heap.size + 1 < wc.heap.size := by have := hb.size; (try simp at this); omega
  have HBwc := Lib.hid hb
  have HNwc := Lib.hid hn
  clear hb hn
  go_wp2_with fail
  refine (make_z (N := N) s _ _ _ (mn / Nat.gcd mn md) _ (by omega) (HNwb.out.below HBwc.out) (by omega) q.num HQ1.out.symm).mono ?_
  rintro e wd ⟨rd, cd', rfl, hn, hb⟩
  obtain ⟨hcwd, hfwd⟩ := bcell hb
  have hzwd0 : w.heap.size < wd.heap.size := by have := hb.size; (try simp at this); omega
  have hzwd1 : w.heap.size + 1 < wd.heap.size := by have := hb.size; (try simp at this); omega
  have HBwd := Lib.hid hb
  have HNwd := Lib.hid hn
  clear hb hn
  have HX := Lib.hid (((((Bx.new' (w.alloc (.cells #[.bool s, .slice a na ca] 36)) #[.bool false, .slice none 0 0, .slice none 0 0] 38 (w.heap.size + 1) (by simp)).below HBwa.out).below HBwb.out).below HBwc.out).below HBwd.out)
  have HBB := Lib.hid (((((bel2 w _ _).trans (HBwa.out.mono (by simp; omega))).trans (HBwb.out.mono (by omega))).trans (HBwc.out.mono (by omega))).trans (HBwd.out.mono (by omega)))
  have HF := Lib.hid (fun v0 v1 v2 => fin3 hN (by omega) HX.out HNwd.out (HNwc.out.below HBwd.out) HBB.out v0 v1 v2)
  go_wp2_with fail
  exact bodyPost_ret (v := .agg #[.bool (decide (q.num < 0)), .slice rd (nlen q.num.natAbs) cd', .slice rc (nlen q.den) cc']) (by simp [results, Try.results35, go_sem, hcwa, hcwb, hcwc, hcwd, hzwa1, hzwb1, hzwc1]) rfl ⟨_, _, _, _, rfl, (HF.out _ _ _).1, (HF.out _ _ _).2.1, (HF.out _ _ _).2.2⟩
  
/-- numerator and denominator, the denominator not 0 -/
def PartsPost (N : Nat) (w : World) (q : Rat) (L : Nat) (e : Ending) (w' : World) : Prop :=
  ∃ s a na ca d nd cd mn md, e = .returned (.tuple #[.agg #[.bool s, .slice a na ca], .slice d nd cd]) ∧ Nt N w' a na ca mn ∧ Nt N w' d nd cd md ∧ 0 < md ∧ mkRat (zI s mn) md = q ∧ na ≤ L ∧ nd ≤ L ∧ Below w.heap.size w w'

theorem cmp0 (m : Nat) (h : 0 < m) : (cmpN m 0 == 0) = false := by rw [cmpN_zero, if_pos h]; rfl
theorem cmp00 : (cmpN 0 0 == 0) = true := rfl

set_option maxHeartbeats 2000000 in
theorem parts_any {N : Nat} (s : Bool) (a d : Option Addr) (na ca nd cd L : Nat) (q : Rat) (w : World) (hN : N ≤ w.heap.size) (h : Rt N w s a na ca d nd cd q L) :
    Calls Try.prog 27 #[.agg #[.bool s, .slice a na ca, .slice d nd cd]] w (PartsPost N w q L) := by
  obtain ⟨l0, l1, l2, mn, md, hn, hd, hq⟩ := h
  have HA := Lib.hid ((hn.alloc (.cells #[.bool s, .slice a na ca, .slice d nd cd] 38)).alloc (.cells #[.bool false, .slice none 0 0] 36))
  have HD := Lib.hid ((hd.alloc (.cells #[.bool s, .slice a na ca, .slice d nd cd] 38)).alloc (.cells #[.bool false, .slice none 0 0] 36))
  clear hn hd
  rcases Nat.eq_zero_or_pos md with h0 | h0
  · subst h0
    rw [Rat.mkRat_zero] at hq
    have HQ := Lib.hid hq
    have hc0 := cmp00
    clear hq
    go_enter Try.func27, Try.ntmps27
    go_wp2_with fail
    refine (cmp_any (N := N) _ _ _ _ 0 _ _ 0 _ HD.out (Nt.zero _ _)).mono ?_
    rintro e w1 ⟨rfl, q1, rfl⟩
    go_wp2_with fail
    refine (of_any (N := N) 1 _ (by omega)).mono ?_
    rintro e wb ⟨rb, cb', rfl, hn, hb⟩
    obtain ⟨hcwb, hfwb⟩ := bcell hb
    have hzwb0 : w.heap.size < wb.heap.size := by have := hb.size; (try simp at this); omega
    have hzwb1 : w.heap.size + 1 < wb.heap.size := by have := hb.size; (try simp at this); omega
    have HBwb := Lib.hid hb
    have HNwb := Lib.hid hn
    clear hb hn
    have HX := Lib.hid ((Bx.new' (w.alloc (.cells #[.bool s, .slice a na ca, .slice d nd cd] 38)) #[.bool false, .slice none 0 0] 36 (w.heap.size + 1) (by simp)).below (bel_of_drewN HBwb.out))
    have HBB := Lib.hid ((bel2 w _ _).trans ((bel_of_drewN HBwb.out).mono (by simp; omega)))
    have HF := Lib.hid (fun v0 v1 => fin2 hN (by omega) HX.out HNwb.out HBB.out v0 v1)
    go_wp2_with fail
    exact bodyPost_ret (v := .tuple #[.agg #[.bool false, .slice none 0 0], .slice rb (nlen 1) cb']) (by simp [results, Try.results27, go_sem, hcwb]) rfl ⟨_, _, _, _, _, _, _, 0, 1, rfl, Nt.zero _ _, (HF.out _ _).1, by omega, by rw [← HQ.out]; rfl, by omega, Nat.le_trans (nlen_small (by decide)) l0, (HF.out _ _).2⟩
  · have hc0 := cmp0 md h0
    have HQ := Lib.hid hq
    clear hq
    go_enter Try.func27, Try.ntmps27
    go_wp2_with fail
    refine (cmp_any (N := N) _ _ _ _ md _ _ 0 _ HD.out (Nt.zero _ _)).mono ?_
    rintro e w1 ⟨rfl, q1, rfl⟩
    go_wp2_with fail
    go_region
    go_wp2_with fail
    have hx : ∀ k, Bx (((w.alloc (.cells #[.bool s, .slice a na ca, .slice d nd cd] 38)).alloc (.cells #[.bool false, .slice none 0 0] 36)).drewN k) (w.heap.size + 1) 36 := fun k => Bx.new' (w.alloc (.cells #[.bool s, .slice a na ca, .slice d nd cd] 38)) #[.bool false, .slice none 0 0] 36 (w.heap.size + 1) (by simp)
    have hbel : ∀ k, Below w.heap.size w (((w.alloc (.cells #[.bool s, .slice a na ca, .slice d nd cd] 38)).alloc (.cells #[.bool false, .slice none 0 0] 36)).drewN k) := fun k => below_drewN (bel2 w _ _) k
    have f1 := fun k v0 v1 => fin2 hN (by omega) (hx k) (HA.out.below (bel_drewN _ _ k)) (hbel k) v0 v1
    have f2 := fun k v0 v1 => fin2 hN (by omega) (hx k) (HD.out.below (bel_drewN _ _ k)) (hbel k) v0 v1
    exact bodyPost_ret (v := .tuple #[.agg #[.bool s, .slice a na ca], .slice d nd cd]) (by simp [results, Try.results27, go_sem]) rfl ⟨_, _, _, _, _, _, _, mn, md, rfl, (f1 _ _ _).1, (f2 _ _ _).1, h0, HQ.out, l1, l2, (f1 _ _ _).2⟩

end Go.Proofs.Ytmljfaplohbjcaa

namespace Go.Proofs.Ytmljfaplohbjcaa
open Go.RowKit

theorem bel_of_alloc {w w' : World} {o : Obj} (h : Below (w.alloc o).heap.size (w.alloc o) w') : Below w.heap.size w w' := (bel1 w o).trans (h.mono (by simp))
theorem sgn_mk (s : Bool) (mn md : Nat) (h : 0 < md) : (zI s mn).sign = (mkRat (zI s mn) md).num.sign := by
  rw [red_num s mn md h]
  have hg : 0 < Nat.gcd mn md := Nat.gcd_pos_of_pos_right _ h
  have hd := Nat.gcd_dvd_left mn md
  rcases Nat.eq_zero_or_pos mn with h0 | h0
  · subst h0; simp [zI]
  · have h1 : 0 < mn / Nat.gcd mn md := Nat.div_pos (Nat.le_of_dvd h0 hd) hg
    unfold zI
    cases s
    · simp only [Bool.false_eq_true, if_false]
      rw [Int.sign_eq_one_of_pos (by omega), Int.sign_eq_one_of_pos (by omega)]
    · simp only [if_true]
      rw [Int.sign_eq_neg_one_of_neg (by omega), Int.sign_eq_neg_one_of_neg (by omega)]

set_option maxHeartbeats 2000000 in
theorem rsign_any {N : Nat} (s : Bool) (a d : Option Addr) (na ca nd cd L : Nat) (q : Rat) (w : World) (hN : N ≤ w.heap.size) (h : Rt N w s a na ca d nd cd q L) :
    Calls Try.prog 12 #[.agg #[.bool s, .slice a na ca, .slice d nd cd]] w fun e w' => e = .returned (.int .i64 q.num.sign) ∧ Below w.heap.size w w' := by
  have H := Lib.hid (h.alloc (.cells #[.bool s, .slice a na ca, .slice d nd cd] 38))
  clear h
  go_enter Try.func12, Try.ntmps12
  go_wp2_with fail
  refine (parts_any (N := N) _ _ _ _ _ _ _ L q _ (by simp; omega) H.out).mono ?_
  rintro e wa ⟨s1, a1, na1, ca1, d1, nd1, cd1, mn1, md1, rfl, hn, hn', hp1, hq1, l1, l1', hb⟩
  obtain ⟨hcwa, hfwa⟩ := bcell hb
  have hzwa0 : w.heap.size < wa.heap.size := by have := hb.size; (try simp at this); omega
  have HBwa := Lib.hid hb
  have HNwa := Lib.hid hn
  have HN'wa := Lib.hid hn'
  clear hb hn hn'
  have HE := Lib.hid ((sgn_mk s1 mn1 md1 hp1).trans (by rw [hq1]))
  clear hq1 hp1
  go_wp2_with fail
  refine (isign_any (N := N) _ _ _ _ mn1 _ (HNwa.out.alloc _)).mono ?_
  rintro e wb ⟨rfl, hb⟩
  obtain ⟨hcwb, hfwb⟩ := bcell hb
  have hzwb0 : w.heap.size < wb.heap.size := by have := hb.size; (try simp at this); omega
  have hzwb1 : wa.heap.size < wb.heap.size := by have := hb.size; (try simp at this); omega
  have HBwb := Lib.hid hb
  clear hb 
  rw [HE.out]
  go_wp2_with fail
  go_ret
  exact ⟨rfl, ((bel1 w _).trans (HBwa.out.mono (by first | omega | (simp; done) | (simp; omega)))).trans ((bel_of_alloc HBwb.out).mono (by omega))⟩
  
theorem neg_mk (s : Bool) (mn md : Nat) (q p : Rat) (h : mkRat (zI s mn) md = q) (hp : -q = p) (z : Int) (hz : -zI s mn = z) : mkRat (zI (decide (z < 0)) z.natAbs) md = p := by
  rw [zI_norm, ← hz, ← hp, ← h, Rat.neg_mkRat]
theorem mul_mk (z : Int) (s1 s2 : Bool) (mn1 md1 mn2 md2 : Nat) (q q' p : Rat) (h1 : mkRat (zI s1 mn1) md1 = q) (h2 : mkRat (zI s2 mn2) md2 = q') (hp : q * q' = p) (hz : zI s1 mn1 * zI s2 mn2 = z) : mkRat (zI (decide (z < 0)) z.natAbs) (md1 * md2) = p := by
  rw [zI_norm, ← hz, ← hp, ← h1, ← h2, Rat.mkRat_mul_mkRat]
theorem nlen_imul {z : Int} {s1 s2 : Bool} {m1 m2 : Nat} (hz : zI s1 m1 * zI s2 m2 = z) : nlen z.natAbs ≤ nlen m1 + nlen m2 := by
  rw [← hz, Int.natAbs_mul, zI_abs, zI_abs]; exact nlen_mul _ _
set_option maxHeartbeats 4000000 in
theorem rmul_any {N : Nat} (s s' : Bool) (a d a' d' : Option Addr) (na ca nd cd na' ca' nd' cd' L L' : Nat) (q q' : Rat) (w : World) (hN : N ≤ w.heap.size) (h : Rt N w s a na ca d nd cd q L) (h' : Rt N w s' a' na' ca' d' nd' cd' q' L') (hL : L ≤ 68719476736) (hL' : L' ≤ 68719476736) (p : Rat) (hp : q * q' = p) :
    Calls Try.prog 16 #[.agg #[.bool s, .slice a na ca, .slice d nd cd], .agg #[.bool s', .slice a' na' ca', .slice d' nd' cd']] w (RatPost N w p) := by
  have H := Lib.hid (((h.alloc (.cells #[.bool s, .slice a na ca, .slice d nd cd] 38)).alloc (.cells #[.bool s', .slice a' na' ca', .slice d' nd' cd'] 38)).alloc (.cells #[.bool false, .slice none 0 0, .slice none 0 0] 38))
  have H' := Lib.hid (((h'.alloc (.cells #[.bool s, .slice a na ca, .slice d nd cd] 38)).alloc (.cells #[.bool s', .slice a' na' ca', .slice d' nd' cd'] 38)).alloc (.cells #[.bool false, .slice none 0 0, .slice none 0 0] 38))
  have HP := Lib.hid hp
  clear h h' hp
  go_enter Try.func16, Try.ntmps16
  go_wp2_with fail
  refine (parts_any (N := N) _ _ _ _ _ _ _ L q _ (by simp; omega) H.out).mono ?_
  rintro e wa ⟨s1, a1, na1, ca1, d1, nd1, cd1, mn1, md1, rfl, hn, hn', hp1, hq1, l1, l1', hb⟩
  obtain ⟨hcwa, hfwa⟩ := bcell hb
  have hzwa0 : w.heap.size < wa.heap.size := by have := hb.size; (try simp at this); omega
  have hzwa1 : w.heap.size + 1 < wa.heap.size := by have := hb.size; (try simp at this); omega
  have hzwa2 : w.heap.size + 2 < wa.heap.size := by have := hb.size; (try simp at this); omega
  have HBwa := Lib.hid hb
  have HNwa := Lib.hid hn
  have HN'wa := Lib.hid hn'
  clear hb hn hn'
  go_wp2_with fail
  refine (parts_any (N := N) _ _ _ _ _ _ _ L' q' _ (by simp; omega) ((H'.out.below HBwa.out).alloc _)).mono ?_
  rintro e wb ⟨s2, a2, na2, ca2, d2, nd2, cd2, mn2, md2, rfl, hn, hn', hp2, hq2, l2, l2', hb⟩
  obtain ⟨hcwb, hfwb⟩ := bcell hb
  have hzwb0 : w.heap.size < wb.heap.size := by have := hb.size; (try simp at this); omega
  have hzwb1 : w.heap.size + 1 < wb.heap.size := by have := hb.size; (try simp at this); omega
  have hzwb2 : w.heap.size + 2 < wb.heap.size := by have := hb.size; (try simp at this); omega
  have hzwb3 : wa.heap.size < wb.heap.size := by have := hb.size; (try simp at this); omega
  have HBwb := Lib.hid hb
  have HNwb := Lib.hid hn
  have HN'wb := Lib.hid hn'
  clear hb hn hn'
  obtain ⟨z, hz⟩ : ∃ z, zI s1 mn1 * zI s2 mn2 = z := ⟨_, rfl⟩
  have HQ := Lib.hid (mul_mk z s1 s2 mn1 md1 mn2 md2 q q' p hq1 hq2 HP.out hz)
  have HZ := Lib.hid hz
  have lz := nlen_imul hz
  have lm := nlen_mul md1 md2
  have b1 := nlen_bound HNwa.out _ l1
  have b2 := nlen_bound HNwb.out _ l2
  have b3 := nlen_bound HN'wa.out _ l1'
  have b4 := nlen_bound HN'wb.out _ l2'
  clear hq1 hq2 hz
  go_wp2_with fail
  refine (imul_any (N := N) _ _ _ _ _ _ mn1 _ _ mn2 _ (by simp; omega) ((HNwa.out.below (bel_of_alloc HBwb.out)).alloc _) (HNwb.out.alloc _) (by omega) (by omega) z HZ.out).mono ?_
  rintro e wc ⟨rc, cc', rfl, hn, hb⟩
  obtain ⟨hcwc, hfwc⟩ := bcell hb
  have hzwc0 : w.heap.size < wc.heap.size := by have := hb.size; (try simp at this); omega
  have hzwc1 : w.heap.size + 1 < wc.heap.size := by have := hb.size; (try simp at this); omega
  have hzwc2 : w.heap.size + 2 < wc.heap.size := by have := hb.size; (try simp at this); omega
  have hzwc3 : wa.heap.size < wc.heap.size := by have := hb.size; (try simp at this); omega
  have hzwc4 : wb.heap.size < wc.heap.size := by have := hb.size; (try simp at this); omega
  have HBwc := Lib.hid hb
  have HNwc := Lib.hid hn
  clear hb hn
  go_wp2_with fail
  refine (mul_any (N := N) _ _ _ _ md1 _ _ md2 _ (by omega) ((HN'wa.out.below (bel_of_alloc HBwb.out)).below (bel_of_alloc HBwc.out)) (HN'wb.out.below (bel_of_alloc HBwc.out)) (by omega) (by omega)).mono ?_
  rintro e wd ⟨rd, cd1, rfl, hn, hb⟩
  obtain ⟨hcwd, hfwd⟩ := bcell hb
  have hzwd0 : w.heap.size < wd.heap.size := by have := hb.size; (try simp at this); omega
  have hzwd1 : w.heap.size + 1 < wd.heap.size := by have := hb.size; (try simp at this); omega
  have hzwd2 : w.heap.size + 2 < wd.heap.size := by have := hb.size; (try simp at this); omega
  have hzwd3 : wa.heap.size < wd.heap.size := by have := hb.size; (try simp at this); omega
  have hzwd4 : wb.heap.size < wd.heap.size := by have := hb.size; (try simp at this); omega
  have HBwd := Lib.hid hb
  have HNwd := Lib.hid hn
  clear hb hn
  go_wp2_with fail
  refine (reduce_any (N := N) _ _ _ _ _ z.natAbs _ _ (md1 * md2) _ (by omega) (HNwc.out.below HBwd.out) HNwd.out (by omega) (by omega) (Nat.mul_pos hp1 hp2) p HQ.out).mono ?_
  rintro e we ⟨rx, cx, rx2, cx2, rfl, hn, hn', hb⟩
  obtain ⟨hcwe, hfwe⟩ := bcell hb
  have hzwe0 : w.heap.size < we.heap.size := by have := hb.size; (try simp at this); omega
  have hzwe1 : w.heap.size + 1 < we.heap.size := by have := hb.size; (try simp at this); omega
  have hzwe2 : w.heap.size + 2 < we.heap.size := by have := hb.size; (try simp at this); omega
  have hzwe3 : wa.heap.size < we.heap.size := by have := hb.size; (try simp at this); omega
  have hzwe4 : wb.heap.size < we.heap.size := by have := hb.size; (try simp at this); omega
  have HBwe := Lib.hid hb
  have HNwe := Lib.hid hn
  have HN'we := Lib.hid hn'
  clear hb hn hn'
  have HX := Lib.hid ((((((Bx.new' ((w.alloc (.cells #[.bool s, .slice a na ca, .slice d nd cd] 38)).alloc (.cells #[.bool s', .slice a' na' ca', .slice d' nd' cd'] 38)) #[.bool false, .slice none 0 0, .slice none 0 0] 38 (w.heap.size + 1 + 1) (by simp)).below HBwa.out).below (bel_of_alloc HBwb.out)).below (bel_of_alloc HBwc.out)).below HBwd.out).below HBwe.out)
  have HF := Lib.hid (fun v0 v1 v2 => fin3 hN (by omega) HX.out HNwe.out HN'we.out ((((((bel3 w _ _ _).trans (HBwa.out.mono (by first | omega | (simp; done) | (simp; omega)))).trans ((bel_of_alloc HBwb.out).mono (by first | omega | (simp; done) | (simp; omega)))).trans ((bel_of_alloc HBwc.out).mono (by first | omega | (simp; done) | (simp; omega)))).trans (HBwd.out.mono (by first | omega | (simp; done) | (simp; omega)))).trans (HBwe.out.mono (by first | omega | (simp; done) | (simp; omega)))) v0 v1 v2)
  go_wp2_with fail
  exact bodyPost_ret (v := .agg #[.bool (decide ((p).num < 0)), .slice rx (nlen (p).num.natAbs) cx, .slice rx2 (nlen (p).den) cx2]) (by simp [results, Try.results16, go_sem, hcwa, hcwb, hcwc, hcwd, hcwe, hzwa1, hzwa2, hzwb1, hzwb2, hzwc2, hzwd2]) rfl ⟨_, _, _, _, rfl, (HF.out _ _ _).1, (HF.out _ _ _).2.1, (HF.out _ _ _).2.2⟩
  

end Go.Proofs.Ytmljfaplohbjcaa

namespace Go.Proofs.Ytmljfaplohbjcaa
open Go.RowKit

/-- -1, 0 or 1 -/
def cmpQ (p q : Rat) : Int := if p < q then -1 else if q < p then 1 else 0
theorem mk_cross (z : Int) (d : Nat) (h : 0 < d) : mkRat z d * (d : Rat) = (z : Rat) := by
  rw [Rat.mkRat_eq_div, Rat.div_mul_cancel]
  intro e
  have := Rat.natCast_pos.2 h
  rw [e] at this
  exact Rat.lt_irrefl this
theorem mk_lt (z1 z2 : Int) (d1 d2 : Nat) (h1 : 0 < d1) (h2 : 0 < d2) : mkRat z1 d1 < mkRat z2 d2 ↔ z1 * d2 < z2 * d1 := by
  have p1 : (0 : Rat) < (d1 : Rat) := Rat.natCast_pos.2 h1
  have p2 : (0 : Rat) < (d2 : Rat) := Rat.natCast_pos.2 h2
  rw [← Rat.mul_lt_mul_right (Rat.mul_pos p1 p2)]
  have e1 : mkRat z1 d1 * ((d1 : Rat) * (d2 : Rat)) = ((z1 * d2 : Int) : Rat) := by rw [← Rat.mul_assoc, mk_cross z1 d1 h1]; simp; rfl
  have e2 : mkRat z2 d2 * ((d1 : Rat) * (d2 : Rat)) = ((z2 * d1 : Int) : Rat) := by rw [Rat.mul_comm (d1 : Rat), ← Rat.mul_assoc, mk_cross z2 d2 h2]; simp; rfl
  rw [e1, e2, Rat.intCast_lt_intCast]
theorem cmp_mk (z1 z2 x1 x2 : Int) (d1 d2 : Nat) (h1 : 0 < d1) (h2 : 0 < d2) (p q : Rat) (e1 : mkRat z1 d1 = p) (e2 : mkRat z2 d2 = q) (a1 : z1 * zI false d2 = x1) (a2 : z2 * zI false d1 = x2) : cmpZ (zI (decide (x1 < 0)) x1.natAbs) (zI (decide (x2 < 0)) x2.natAbs) = cmpQ p q := by
  rw [zI_norm, zI_norm, ← a1, ← a2, ← e1, ← e2]
  unfold cmpZ cmpQ
  have l1 := mk_lt z1 z2 d1 d2 h1 h2
  have l2 := mk_lt z2 z1 d2 d1 h2 h1
  have f1 : zI false d1 = (d1 : Int) := rfl
  have f2 : zI false d2 = (d2 : Int) := rfl
  rw [f1, f2]
  by_cases c1 : mkRat z1 d1 < mkRat z2 d2
  · rw [if_pos c1, if_pos (l1.1 c1)]
  · rw [if_neg c1, if_neg (fun h => c1 (l1.2 h))]
    by_cases c2 : mkRat z2 d2 < mkRat z1 d1
    · rw [if_pos c2, if_pos (l2.1 c2)]
    · rw [if_neg c2, if_neg (fun h => c2 (l2.2 h))]

set_option maxHeartbeats 4000000 in
theorem rcmp_any {N : Nat} (s s' : Bool) (a d a' d' : Option Addr) (na ca nd cd na' ca' nd' cd' L L' : Nat) (q q' : Rat) (w : World) (hN : N ≤ w.heap.size) (h : Rt N w s a na ca d nd cd q L) (h' : Rt N w s' a' na' ca' d' nd' cd' q' L') (hL : L ≤ 68719476736) (hL' : L' ≤ 68719476736) :
    Calls Try.prog 15 #[.agg #[.bool s, .slice a na ca, .slice d nd cd], .agg #[.bool s', .slice a' na' ca', .slice d' nd' cd']] w fun e w' => e = .returned (.int .i64 (cmpQ q q')) ∧ Below w.heap.size w w' := by
  have H := Lib.hid ((h.alloc (.cells #[.bool s, .slice a na ca, .slice d nd cd] 38)).alloc (.cells #[.bool s', .slice a' na' ca', .slice d' nd' cd'] 38))
  have H' := Lib.hid ((h'.alloc (.cells #[.bool s, .slice a na ca, .slice d nd cd] 38)).alloc (.cells #[.bool s', .slice a' na' ca', .slice d' nd' cd'] 38))
  clear h h'
  have tok1 := trivial
  have tok2 := trivial
  have tok3 := trivial
  go_enter Try.func15, Try.ntmps15
  go_wp2_with fail
  refine (parts_any (N := N) _ _ _ _ _ _ _ L q _ (by simp; omega) H.out).mono ?_
  rintro e wa ⟨s1, a1, na1, ca1, d1, nd1, cd1, mn1, md1, rfl, hn, hn', hp1, hq1, l1, l1', hb⟩
  obtain ⟨hcwa, hfwa⟩ := bcell hb
  have hzwa0 : w.heap.size < wa.heap.size := by have := hb.size; (try simp at this); omega
  have hzwa1 : w.heap.size + 1 < wa.heap.size := by have := hb.size; (try simp at this); omega
  have HBwa := Lib.hid hb
  have HNwa := Lib.hid hn
  have HN'wa := Lib.hid hn'
  clear hb hn hn'
  go_wp2_with fail
  refine (parts_any (N := N) _ _ _ _ _ _ _ L' q' _ (by simp; omega) ((H'.out.below HBwa.out).alloc _)).mono ?_
  rintro e wb ⟨s2, a2, na2, ca2, d2, nd2, cd2, mn2, md2, rfl, hn, hn', hp2, hq2, l2, l2', hb⟩
  obtain ⟨hcwb, hfwb⟩ := bcell hb
  have hzwb0 : w.heap.size < wb.heap.size := by have := hb.size; (try simp at this); omega
  have hzwb1 : w.heap.size + 1 < wb.heap.size := by have := hb.size; (try simp at this); omega
  have hzwb2 : wa.heap.size < wb.heap.size := by have := hb.size; (try simp at this); omega
  have HBwb := Lib.hid hb
  have HNwb := Lib.hid hn
  have HN'wb := Lib.hid hn'
  clear hb hn hn'
  have b1 := nlen_bound HNwa.out _ l1
  have b2 := nlen_bound HNwb.out _ l2
  have b3 := nlen_bound HN'wa.out _ l1'
  have b4 := nlen_bound HN'wb.out _ l2'
  obtain ⟨x1, hx1⟩ : ∃ z, zI s1 mn1 * zI false md2 = z := ⟨_, rfl⟩
  obtain ⟨x2, hx2⟩ : ∃ z, zI s2 mn2 * zI false md1 = z := ⟨_, rfl⟩
  have lx1 := nlen_imul hx1
  have lx2 := nlen_imul hx2
  have HQ := Lib.hid (cmp_mk (zI s1 mn1) (zI s2 mn2) x1 x2 md1 md2 hp1 hp2 q q' hq1 hq2 hx1 hx2)
  have HX1 := Lib.hid hx1
  have HX2 := Lib.hid hx2
  clear hq1 hq2 hx1 hx2
  go_wp2_with fail
  go_region_held3 (fun w' => w'.cell? ⟨wa.heap.size, 0, none⟩ = some (.bool s1) ∧ w'.cell? ⟨wa.heap.size, 1, none⟩ = some (.slice a1 na1 ca1) ∧ w'.cell? ⟨wb.heap.size, 0, none⟩ = some (.bool s2) ∧ w'.cell? ⟨wb.heap.size, 1, none⟩ = some (.slice a2 na2 ca2))
    (first | (go_keep; done) | ((try dsimp only); (repeat' apply And.intro) <;> (first | (go_keep; done) | (rw [cell_set2 _ _ _ _ _ _ _ _ (by omega)]; assumption) | (rw [cell_set3 _ _ _ _ _ _ _ _ _ _ (by omega)]; assumption))))
    (first
      | (go_at_call 34; have _t := tok1; refine (whole_any (N := N) _ _ _ md2 _ (by simp; omega) (by exact (HN'wb.out.alloc _)) (by omega)).mono ?_; rintro e wc ⟨rc, cc1, rfl, hn, hb⟩; have kwc0 : wc.cell? ⟨wa.heap.size, 0, none⟩ = some (.bool s1) := (hb.cell (p := ⟨wa.heap.size, 0, none⟩) (by first | (simp; done) | (simp; omega))).trans (by go_simp); have kwc1 : wc.cell? ⟨wa.heap.size, 1, none⟩ = some (.slice a1 na1 ca1) := (hb.cell (p := ⟨wa.heap.size, 1, none⟩) (by first | (simp; done) | (simp; omega))).trans (by go_simp); have kwc2 : wc.cell? ⟨wb.heap.size, 0, none⟩ = some (.bool s2) := (hb.cell (p := ⟨wb.heap.size, 0, none⟩) (by first | (simp; done) | (simp; omega))).trans (by go_simp); have kwc3 : wc.cell? ⟨wb.heap.size, 1, none⟩ = some (.slice a2 na2 ca2) := (hb.cell (p := ⟨wb.heap.size, 1, none⟩) (by first | (simp; done) | (simp; omega))).trans (by go_simp); have hzwc0 : w.heap.size < wc.heap.size := (by have := hb.size; (try simp at this); omega); have hzwc1 : w.heap.size + 1 < wc.heap.size := (by have := hb.size; (try simp at this); omega); have hzwc2 : wa.heap.size < wc.heap.size := (by have := hb.size; (try simp at this); omega); have hzwc3 : wb.heap.size < wc.heap.size := (by have := hb.size; (try simp at this); omega); obtain ⟨hcwc, hfwc⟩ := bcell hb; have HBwc := Lib.hid hb; have HNwc := Lib.hid hn; clear hb hn _t tok1)
      | (go_at_call 33; have _t := tok2; refine (imul_any (N := N) s1 false _ _ _ _ mn1 _ _ md2 _ (by omega) (by exact (((HNwa.out.below (bel_of_alloc HBwb.out)).alloc _).below (bel_of_drew HBwc.out))) (by exact HNwc.out) (by omega) (by omega) x1 HX1.out).mono ?_; rintro e wd ⟨rd, cd3, rfl, hn, hb⟩; have kwd0 : wd.cell? ⟨wa.heap.size, 0, none⟩ = some (.bool s1) := (hb.cell (p := ⟨wa.heap.size, 0, none⟩) (by omega)).trans kwc0; have kwd1 : wd.cell? ⟨wa.heap.size, 1, none⟩ = some (.slice a1 na1 ca1) := (hb.cell (p := ⟨wa.heap.size, 1, none⟩) (by omega)).trans kwc1; have kwd2 : wd.cell? ⟨wb.heap.size, 0, none⟩ = some (.bool s2) := (hb.cell (p := ⟨wb.heap.size, 0, none⟩) (by omega)).trans kwc2; have kwd3 : wd.cell? ⟨wb.heap.size, 1, none⟩ = some (.slice a2 na2 ca2) := (hb.cell (p := ⟨wb.heap.size, 1, none⟩) (by omega)).trans kwc3; have hzwd0 : w.heap.size < wd.heap.size := (by have := hb.size; (try simp at this); omega); have hzwd1 : w.heap.size + 1 < wd.heap.size := (by have := hb.size; (try simp at this); omega); have hzwd2 : wa.heap.size < wd.heap.size := (by have := hb.size; (try simp at this); omega); have hzwd3 : wb.heap.size < wd.heap.size := (by have := hb.size; (try simp at this); omega); obtain ⟨hcwd, hfwd⟩ := bcell hb; have HBwd := Lib.hid hb; have HNwd := Lib.hid hn; clear hb hn _t tok2)
      | (go_at_call 34; have _t := tok3; refine (whole_any (N := N) _ _ _ md1 _ (by omega) (by exact ((((HN'wa.out.below (bel_of_alloc HBwb.out)).alloc _).below (bel_of_drew HBwc.out)).below HBwd.out)) (by omega)).mono ?_; rintro e we ⟨re, ce1, rfl, hn, hb⟩; have kwe0 : we.cell? ⟨wa.heap.size, 0, none⟩ = some (.bool s1) := (hb.cell (p := ⟨wa.heap.size, 0, none⟩) (by omega)).trans kwd0; have kwe1 : we.cell? ⟨wa.heap.size, 1, none⟩ = some (.slice a1 na1 ca1) := (hb.cell (p := ⟨wa.heap.size, 1, none⟩) (by omega)).trans kwd1; have kwe2 : we.cell? ⟨wb.heap.size, 0, none⟩ = some (.bool s2) := (hb.cell (p := ⟨wb.heap.size, 0, none⟩) (by omega)).trans kwd2; have kwe3 : we.cell? ⟨wb.heap.size, 1, none⟩ = some (.slice a2 na2 ca2) := (hb.cell (p := ⟨wb.heap.size, 1, none⟩) (by omega)).trans kwd3; have hzwe0 : w.heap.size < we.heap.size := (by have := hb.size; (try simp at this); omega); have hzwe1 : w.heap.size + 1 < we.heap.size := (by have := hb.size; (try simp at this); omega); have hzwe2 : wa.heap.size < we.heap.size := (by have := hb.size; (try simp at this); omega); have hzwe3 : wb.heap.size < we.heap.size := (by have := hb.size; (try simp at this); omega); obtain ⟨hcwe, hfwe⟩ := bcell hb; have HBwe := Lib.hid hb; have HNwe := Lib.hid hn; clear hb hn _t tok3)
      | (go_at_call 33; refine (imul_any (N := N) s2 false _ _ _ _ mn2 _ _ md1 _ (by omega) (by exact ((((HNwb.out.alloc _).below (bel_of_drew HBwc.out)).below HBwd.out).below HBwe.out)) (by exact HNwe.out) (by omega) (by omega) x2 HX2.out).mono ?_; rintro e wf ⟨rf, cf1, rfl, hn, hb⟩; have kwf0 : wf.cell? ⟨wa.heap.size, 0, none⟩ = some (.bool s1) := (hb.cell (p := ⟨wa.heap.size, 0, none⟩) (by omega)).trans kwe0; have kwf1 : wf.cell? ⟨wa.heap.size, 1, none⟩ = some (.slice a1 na1 ca1) := (hb.cell (p := ⟨wa.heap.size, 1, none⟩) (by omega)).trans kwe1; have kwf2 : wf.cell? ⟨wb.heap.size, 0, none⟩ = some (.bool s2) := (hb.cell (p := ⟨wb.heap.size, 0, none⟩) (by omega)).trans kwe2; have kwf3 : wf.cell? ⟨wb.heap.size, 1, none⟩ = some (.slice a2 na2 ca2) := (hb.cell (p := ⟨wb.heap.size, 1, none⟩) (by omega)).trans kwe3; have hzwf0 : w.heap.size < wf.heap.size := (by have := hb.size; (try simp at this); omega); have hzwf1 : w.heap.size + 1 < wf.heap.size := (by have := hb.size; (try simp at this); omega); have hzwf2 : wa.heap.size < wf.heap.size := (by have := hb.size; (try simp at this); omega); have hzwf3 : wb.heap.size < wf.heap.size := (by have := hb.size; (try simp at this); omega); obtain ⟨hcwf, hfwf⟩ := bcell hb; have HBwf := Lib.hid hb; have HNwf := Lib.hid hn; clear hb hn)
      | (go_at_call 32; refine (icmp_any (N := N) _ _ _ _ _ _ x1.natAbs _ _ x2.natAbs _ (by exact ((HNwd.out.below HBwe.out).below HBwf.out)) (by exact HNwf.out)).mono ?_; rw [HQ.out]; rintro e wg ⟨rfl, hb⟩; have kwg0 : wg.cell? ⟨wa.heap.size, 0, none⟩ = some (.bool s1) := (hb.cell (p := ⟨wa.heap.size, 0, none⟩) (by omega)).trans kwf0; have kwg1 : wg.cell? ⟨wa.heap.size, 1, none⟩ = some (.slice a1 na1 ca1) := (hb.cell (p := ⟨wa.heap.size, 1, none⟩) (by omega)).trans kwf1; have kwg2 : wg.cell? ⟨wb.heap.size, 0, none⟩ = some (.bool s2) := (hb.cell (p := ⟨wb.heap.size, 0, none⟩) (by omega)).trans kwf2; have kwg3 : wg.cell? ⟨wb.heap.size, 1, none⟩ = some (.slice a2 na2 ca2) := (hb.cell (p := ⟨wb.heap.size, 1, none⟩) (by omega)).trans kwf3; have hzwg0 : w.heap.size < wg.heap.size := (by have := hb.size; (try simp at this); omega); have hzwg1 : w.heap.size + 1 < wg.heap.size := (by have := hb.size; (try simp at this); omega); have hzwg2 : wa.heap.size < wg.heap.size := (by have := hb.size; (try simp at this); omega); have hzwg3 : wb.heap.size < wg.heap.size := (by have := hb.size; (try simp at this); omega); obtain ⟨hcwg, hfwg⟩ := bcell hb; have HBwg := Lib.hid hb; clear hb ))
  go_wp2_with fail
  go_ret
  exact ⟨rfl, ((((((((bel2 w _ _).trans (HBwa.out.mono (by first | omega | (simp; done) | (simp; omega)))).trans ((bel_of_alloc HBwb.out).mono (by first | omega | (simp; done) | (simp; omega)))).trans ((bel_of_alloc (bel_of_drew HBwc.out)).mono (by first | omega | (simp; done) | (simp; omega)))).trans (HBwd.out.mono (by first | omega | (simp; done) | (simp; omega)))).trans (HBwe.out.mono (by first | omega | (simp; done) | (simp; omega)))).trans (HBwf.out.mono (by first | omega | (simp; done) | (simp; omega)))).trans (HBwg.out.mono (by first | omega | (simp; done) | (simp; omega))))⟩
  

end Go.Proofs.Ytmljfaplohbjcaa

namespace Go.Proofs.Ytmljfaplohbjcaa
open Go

variable {P : Program} {ops : Array Oper} {Q : Exit → Act → World → Prop}

theorem wpOp_of_list {i : Nat} {o : Oper} {K : Act → World → Prop} {a : Act} {w : World} (h : ops[i]? = some o) (hl : wpList P ops (Exit.then K Q) [o] a w) : wpOp P ops Q i K a w := by
  unfold wpOp
  rw [h]
  unfold wpList at hl
  simp only
  by_cases hw : Region.wanted o (yielded ops a.tmps) = true
  · rw [if_pos hw] at hl ⊢
    rcases hl with hl | ⟨h1, h2⟩
    · left
      unfold Oper.wp at hl ⊢
      generalize (execOp a.eval o).run P w = r at *
      cases r with
      | ok n w' =>
        cases n <;> simp only [Oper.upon] at hl ⊢ <;>
          first
            | exact hl
            | exact Calls.mono hl (fun e w'' he => by cases e <;> first | exact he | (obtain ⟨a1, w1, h1⟩ := he; exact ⟨a1, w1, h1⟩))
            | exact Rows.mono hl (fun _ _ he => he)
      | halt x w' => cases x <;> simp only [Oper.upon] at hl ⊢ <;> exact hl
    · right
      obtain ⟨a1, w1, h2⟩ := h2
      exact ⟨h1, a1, w1, h2⟩
  · rw [if_neg hw] at hl ⊢
    exact hl

/-- how many are not listed -/
def cnt (listed : Array Bool) : Nat := (listed.toList.filter (fun b => !b)).length
theorem cnt_set : ∀ (l : List Bool) (i : Nat), l[i]? = some false → ((l.set i true).filter (fun b => !b)).length + 1 = (l.filter (fun b => !b)).length
  | [], i, h => by simp at h
  | b :: l, 0, h => by simp at h; subst h; simp
  | b :: l, i + 1, h => by
    have := cnt_set l i (by simpa using h)
    simp only [List.set_cons_succ, List.filter_cons]
    split
    · simp only [List.length_cons]; omega
    · omega
theorem cnt_zero {l : List Bool} (h : (l.filter (fun b => !b)).length = 0) {i : Nat} {b : Bool} (hi : l[i]? = some b) : b = true := by
  have h1 := List.length_eq_zero_iff.1 h
  cases b with
  | true => rfl
  | false =>
    have hm : false ∈ l.filter (fun b => !b) := List.mem_filter.2 ⟨List.mem_of_getElem? hi, rfl⟩
    rw [h1] at hm; cases hm

theorem ready_mem {md : Region.Mode} {listed : Array Bool} {i : Nat} (h : i ∈ Region.ready md ops listed) (hs : listed.size = ops.size) :
    ∃ o, ops[i]? = some o ∧ listed[i]? = some false ∧ ∀ e ∈ o.after, Region.binds md e = true → listed.getD e.on false = true := by
  unfold Region.ready at h
  rw [List.mem_filter] at h
  obtain ⟨h1, h2⟩ := h
  have hi : i < ops.size := by simpa using h1
  simp only [Bool.and_eq_true, Bool.not_eq_true'] at h2
  obtain ⟨h3, h4⟩ := h2
  have ho : ops[i]? = some ops[i] := by simp [hi]
  refine ⟨ops[i], ho, ?_, ?_⟩
  · have hl : i < listed.size := by omega
    simp [Array.getD, hl] at h3 ⊢
    exact h3
  · rw [ho] at h4
    simp only [Option.map_some, Option.getD_some, Array.all_eq_true] at h4
    intro e he hb
    obtain ⟨j, hj, rfl⟩ := Array.mem_iff_getElem.1 he
    have := h4 j hj
    simpa [hb] using this
theorem ready_nil {md : Region.Mode} {listed : Array Bool} (h : Region.ready md ops listed = []) (hs : listed.size = ops.size) (hac : ∀ (i : Nat) (o : Oper), ops[i]? = some o → ∀ (e : Edge), e ∈ o.after → e.on < i) :
    ∀ i, i < ops.size → listed.getD i false = true := by
  intro i
  induction i using Nat.strongRecOn with
  | ind i ih =>
    intro hi
    cases hc : listed.getD i false with
    | true => rfl
    | false =>
      exfalso
      have ho : ops[i]? = some ops[i] := by simp [hi]
      have hm : i ∈ Region.ready md ops listed := by
        unfold Region.ready
        rw [List.mem_filter]
        refine ⟨by simpa using hi, ?_⟩
        have hl : i < listed.size := by omega
        have hc' : listed.getD i true = false := by simp [Array.getD, hl] at hc ⊢; exact hc
        rw [hc', ho]
        simp only [Bool.not_false, Option.map_some, Option.getD_some, Bool.true_and, Array.all_eq_true]
        intro j hj
        have hlt := hac i _ ho ops[i].after[j] (Array.getElem_mem hj)
        have := ih _ hlt (by omega)
        simp [this]
      rw [h] at hm; cases hm

theorem wpAny_inv {md : Region.Mode} {J : (Nat → Bool) → Act → World → Prop} (hac : ∀ (i : Nat) (o : Oper), ops[i]? = some o → ∀ (e : Edge), e ∈ o.after → e.on < i)
    (hstep : ∀ L a w i o, ops[i]? = some o → L i = false → (∀ e ∈ o.after, Region.binds md e = true → L e.on = true) → J L a w → wpList P ops (Exit.then (J (fun j => if j = i then true else L j)) Q) [o] a w)
    (hend : ∀ L a w, (∀ i, i < ops.size → L i = true) → J L a w → Q .normal a w) :
    ∀ (fuel : Nat) (listed : Array Bool) (a : Act) (w : World), listed.size = ops.size → cnt listed ≤ fuel → J (fun j => listed.getD j false) a w → wpAny P md ops Q fuel listed a w := by
  intro fuel
  induction fuel with
  | zero =>
    intro listed a w hs hc hJ
    have hall : ∀ i, i < ops.size → listed.getD i false = true := by
      intro i hi
      have hl : i < listed.size := by omega
      have := cnt_zero (l := listed.toList) (by unfold cnt at hc; omega) (i := i) (b := listed[i]) (by simp [hl])
      simp [Array.getD, hl, this]
    refine ⟨?_, hend _ a w hall hJ⟩
    cases hr : Region.ready md ops listed with
    | nil => rfl
    | cons x xs =>
      exfalso
      obtain ⟨o, ho, hf, _⟩ := ready_mem (md := md) (ops := ops) (listed := listed) (i := x) (by rw [hr]; simp) hs
      have hx : x < ops.size := (Array.getElem?_eq_some_iff.1 ho).1
      have := hall x hx
      simp [Array.getD, show x < listed.size by omega] at this hf
      rw [this] at hf; cases hf
  | succ fuel ih =>
    intro listed a w hs hc hJ
    refine ⟨fun hr => hend _ a w (ready_nil hr hs hac) hJ, fun i hi => ?_⟩
    obtain ⟨o, ho, hf, hafter⟩ := ready_mem hi hs
    have hl : i < listed.size := (Array.getElem?_eq_some_iff.1 hf).1
    have hJ2 := hstep _ a w i o ho (by simp [Array.getD, hl] at hf ⊢; exact hf) hafter hJ
    refine wpOp_mono (fun a' w' h => ?_) (wpOp_of_list ho hJ2)
    refine ih (listed.setIfInBounds i true) a' w' (by simpa using hs) ?_ ?_
    · have := cnt_set listed.toList i (by simpa using hf)
      unfold cnt at hc ⊢
      simp only [Array.toList_setIfInBounds]
      omega
    · have e : (fun j => (listed.setIfInBounds i true).getD j false) = (fun j => if j = i then true else listed.getD j false) := by
        funext j
        by_cases hj : j = i
        · subst hj; simp [Array.getD, hl]
        · rw [if_neg hj]
          simp only [Array.getD, Array.size_setIfInBounds]
          split
          · exact Array.getElem_setIfInBounds_ne _ (fun e => hj e.symm)
          · rfl
      rw [e]; exact h

/-- a region that draws its order, by an invariant -/
theorem region_inv {id : Nat} {a : Act} {w : World} (hm : P.follows .mixedOrders = true) (J : (Nat → Bool) → Act → World → Prop)
    (h0 : J (fun _ => false) a w.drew) (hac : ∀ (i : Nat) (o : Oper), ops[i]? = some o → ∀ (e : Edge), e ∈ o.after → e.on < i)
    (hstep : ∀ L a w i o, ops[i]? = some o → L i = false → (∀ e ∈ o.after, Region.binds .any e = true → L e.on = true) → J L a w → wpList P ops (Exit.then (J (fun j => if j = i then true else L j)) Q) [o] a w)
    (hend : ∀ L a w, (∀ i, i < ops.size → L i = true) → J L a w → Q .normal a w) : (Code.region id ops true).wp P Q a w := by
  refine wp_region_any hm (wpAny_inv hac hstep hend ops.size _ a _ (by simp) ?_ ?_)
  · unfold cnt; exact Nat.le_trans (List.length_filter_le _ _) (by simp)
  · have e : (fun j => (Array.replicate ops.size false).getD j false) = (fun _ => false) := by
      funext j; simp [Array.getD]
    rw [e]; exact h0

theorem region_inv2 {id : Nat} {a : Act} {w : World} (hm : P.follows .mixedOrders = true) (J : Act → (Nat → Bool) → Act → World → Prop)
    (h0 : J a (fun _ => false) a w.drew) (hac : ∀ (i : Nat) (o : Oper), ops[i]? = some o → ∀ (e : Edge), e ∈ o.after → e.on < i)
    (hstep : ∀ L a' w i o, ops[i]? = some o → L i = false → (∀ e ∈ o.after, Region.binds .any e = true → L e.on = true) → J a L a' w → wpList P ops (Exit.then (J a (fun j => if j = i then true else L j)) Q) [o] a' w)
    (hend : ∀ L a' w, (∀ i, i < ops.size → L i = true) → J a L a' w → Q .normal a' w) : (Code.region id ops true).wp P Q a w :=
  region_inv hm (J a) h0 hac hstep hend

/-- each operation waits for earlier ones alone -/
def acyc (ops : Array Oper) : Bool := (List.range ops.size).all fun i => ((ops[i]?).map fun o => o.after.toList.all fun e => decide (e.on < i)).getD true
theorem acyc_spec (h : acyc ops = true) : ∀ (i : Nat) (o : Oper), ops[i]? = some o → ∀ (e : Edge), e ∈ o.after → e.on < i := by
  intro i o ho e he
  unfold acyc at h
  rw [List.all_eq_true] at h
  have := h i (List.mem_range.2 (Array.getElem?_eq_some_iff.1 ho).1)
  rw [ho] at this
  simp only [Option.map_some, Option.getD_some, List.all_eq_true, decide_eq_true_eq] at this
  exact this e (by simpa using he)

end Go.Proofs.Ytmljfaplohbjcaa

namespace Go.Proofs.Ytmljfaplohbjcaa
open Go.RowKit

/-- block b is a box of type T with k cells, none frozen -/
def Bk (w : World) (b : Nat) (T : TypeId) (k : Nat) : Prop := ∃ cur, w.heap[b]? = some (.cells cur T (0, 0)) ∧ cur.size = k
theorem Bk.bx {w : World} {b k : Nat} {T : TypeId} (h : Bk w b T k) : Bx w b T := by obtain ⟨c, h, _⟩ := h; exact ⟨c, _, h⟩
theorem Bk.lt {w : World} {b k : Nat} {T : TypeId} (h : Bk w b T k) : b < w.heap.size := h.bx.lt
theorem Bk.below {w w' : World} {b k : Nat} {T : TypeId} (h : Bk w b T k) (hb : Below w.heap.size w w') : Bk w' b T k := by
  have hl := h.lt
  obtain ⟨c, h, hk⟩ := h; exact ⟨c, (hb.block b hl).trans h, hk⟩
theorem Bk.new (w : World) (c : Array Value) (T : TypeId) : Bk (w.alloc (.cells c T)) w.heap.size T c.size := ⟨c, heap_alloc_new w _, rfl⟩
theorem Bk.cell {w : World} {b k : Nat} {T : TypeId} (h : Bk w b T k) {o : Nat} (ho : o < k) : ∃ v, w.cell? ⟨b, o, none⟩ = some v := by
  obtain ⟨c, h, rfl⟩ := h
  exact ⟨c[o], by simp [World.cell?, h, ho]⟩
theorem Bk.frozen {w : World} {b k : Nat} {T : TypeId} (h : Bk w b T k) (o : Nat) : w.frozen? ⟨b, o, none⟩ = false := by
  obtain ⟨c, h, rfl⟩ := h; simp [World.frozen?, h]
theorem Bk.set {w : World} {b k : Nat} {T : TypeId} (h : Bk w b T k) (p : Addr) (v : Value) : Bk (w.setCell p v) b T k := by
  obtain ⟨c, h, hk⟩ := h
  by_cases e : b = p.block
  · subst e
    refine ⟨if p.spot.isSome then c else c.setIfInBounds p.off v, ?_, ?_⟩
    · simp [World.setCell, Array.getElem?_modify, h]
    · split <;> simp [hk]
  · exact ⟨c, (Below.heap_setCell _ _ _ _ e).trans h, hk⟩

/-- u is the whole number m as an integer -/
def IsWh (N m : Nat) (u : Value) (w : World) : Prop := ∃ r c, u = .agg #[.bool false, .slice r (nlen m) c] ∧ Nt N w r (nlen m) c m
/-- u is the integer z in normal form -/
def IsInt (N : Nat) (z : Int) (u : Value) (w : World) : Prop := ∃ r c, u = .agg #[.bool (decide (z < 0)), .slice r (nlen z.natAbs) c] ∧ Nt N w r (nlen z.natAbs) c z.natAbs
/-- u points to a box of its own -/
def IsBox (b0 : Nat) (T : TypeId) (k : Nat) (u : Value) (w : World) : Prop := ∃ g, u = .pointer (some ⟨g, 0, none⟩) ∧ b0 ≤ g ∧ Bk w g T k
theorem Bk.new' (w : World) (c : Array Value) (T : TypeId) (b : Nat) (h : b = w.heap.size) : Bk (w.alloc (.cells c T)) b T c.size := by subst h; exact Bk.new w c T
theorem set2_cells {w : World} {g : Nat} {a0 a1 v0 v1 : Value} (h0 : w.cell? ⟨g, 0, none⟩ = some a0) (h1 : w.cell? ⟨g, 1, none⟩ = some a1) :
    ((w.setCell ⟨g, 0, none⟩ v0).setCell ⟨g, 1, none⟩ v1).cell? ⟨g, 0, none⟩ = some v0 ∧ ((w.setCell ⟨g, 0, none⟩ v0).setCell ⟨g, 1, none⟩ v1).cell? ⟨g, 1, none⟩ = some v1 :=
  ⟨(World.cell?_setCell_other _ _ _ _ (by simp)).trans (World.cell?_setCell_same _ _ _ h0), World.cell?_setCell_same _ _ _ ((World.cell?_setCell_other _ _ _ _ (by simp)).trans h1)⟩
theorem IsWh.below {N m : Nat} {u : Value} {w w' : World} (h : IsWh N m u w) (hb : Below w.heap.size w w') : IsWh N m u w' := by obtain ⟨r, c, e, h⟩ := h; exact ⟨r, c, e, h.below hb⟩
theorem IsInt.below {N : Nat} {z : Int} {u : Value} {w w' : World} (h : IsInt N z u w) (hb : Below w.heap.size w w') : IsInt N z u w' := by obtain ⟨r, c, e, h⟩ := h; exact ⟨r, c, e, h.below hb⟩
theorem IsBox.below {b0 k : Nat} {T : TypeId} {u : Value} {w w' : World} (h : IsBox b0 T k u w) (hb : Below w.heap.size w w') : IsBox b0 T k u w' := by obtain ⟨g, e, h1, h⟩ := h; exact ⟨g, e, h1, h.below hb⟩

theorem add_mk (z1 z2 x1 x2 x : Int) (d1 d2 : Nat) (h1 : 0 < d1) (h2 : 0 < d2) (q q' p : Rat) (e1 : mkRat z1 d1 = q) (e2 : mkRat z2 d2 = q') (hp : q + q' = p) (a1 : z1 * zI false d2 = x1) (a2 : z2 * zI false d1 = x2) (hx : zI (decide (x1 < 0)) x1.natAbs + zI (decide (x2 < 0)) x2.natAbs = x) : mkRat (zI (decide (x < 0)) x.natAbs) (d1 * d2) = p := by
  rw [zI_norm, zI_norm] at hx
  rw [zI_norm, ← hx, ← a1, ← a2, ← hp, ← e1, ← e2, Rat.mkRat_add_mkRat _ _ (by omega) (by omega)]
  rfl
theorem nlen_iadd {z : Int} {s1 s2 : Bool} {m1 m2 : Nat} (hz : zI s1 m1 + zI s2 m2 = z) : nlen z.natAbs ≤ max (nlen m1) (nlen m2) + 1 := by
  have h : z.natAbs ≤ m1 + m2 := by
    have h1 := zI_abs s1 m1
    have h2 := zI_abs s2 m2
    omega
  exact Nat.le_trans (nlen_mono h) (nlen_add m1 m2)

/-- what stays while the statement runs -/
structure AddB (N b0 ga gb : Nat) (w0 : World) (s1 s2 : Bool) (a1 a2 d1 d2 : Option Addr) (na1 ca1 mn1 na2 ca2 mn2 nd1 cd1 md1 nd2 cd2 md2 : Nat) (w : World) : Prop where
  fa0 : w.cell? ⟨ga, 0, none⟩ = some (.bool s1)
  fa1 : w.cell? ⟨ga, 1, none⟩ = some (.slice a1 na1 ca1)
  fb0 : w.cell? ⟨gb, 0, none⟩ = some (.bool s2)
  fb1 : w.cell? ⟨gb, 1, none⟩ = some (.slice a2 na2 ca2)
  fna : Nt N w a1 na1 ca1 mn1
  fnb : Nt N w a2 na2 ca2 mn2
  fda : Nt N w d1 nd1 cd1 md1
  fdb : Nt N w d2 nd2 cd2 md2
  res : Bk w (b0 + 2) 38 3
  sz : N ≤ w.heap.size
  bel : Below b0 w0 w
  szb : b0 + 3 ≤ w.heap.size
theorem cell_mono {w w' : World} {b o : Nat} {v : Value} (h : w.cell? ⟨b, o, none⟩ = some v) (hb : Below w.heap.size w w') : w'.cell? ⟨b, o, none⟩ = some v := (hb.cell (p := ⟨b, o, none⟩) (World.block_lt_of_cell? w _ h)).trans h
theorem AddB.below {N b0 ga gb : Nat} {w0 : World} {s1 s2 : Bool} {a1 a2 d1 d2 : Option Addr} {na1 ca1 mn1 na2 ca2 mn2 nd1 cd1 md1 nd2 cd2 md2 : Nat} {w w' : World} (h : AddB N b0 ga gb w0 s1 s2 a1 a2 d1 d2 na1 ca1 mn1 na2 ca2 mn2 nd1 cd1 md1 nd2 cd2 md2 w) (hb : Below w.heap.size w w') :
    AddB N b0 ga gb w0 s1 s2 a1 a2 d1 d2 na1 ca1 mn1 na2 ca2 mn2 nd1 cd1 md1 nd2 cd2 md2 w' :=
  ⟨cell_mono h.fa0 hb, cell_mono h.fa1 hb, cell_mono h.fb0 hb, cell_mono h.fb1 hb, h.fna.below hb, h.fnb.below hb, h.fda.below hb, h.fdb.below hb, h.res.below hb, Nat.le_trans h.sz hb.size, h.bel.trans (hb.mono (by have := h.szb; omega)), Nat.le_trans h.szb hb.size⟩

/-- what holds behind 'num := ..' -/
def AddCut (N b0 : Nat) (w0 : World) (x : Int) (d1 d2 : Option Addr) (nd1 cd1 md1 nd2 cd2 md2 : Nat) (s9 : Value) (w : World) : Prop :=
  ∃ g r c, s9 = .pointer (some ⟨g, 0, none⟩) ∧ b0 + 3 ≤ g ∧ w.cell? ⟨g, 0, none⟩ = some (.bool (decide (x < 0))) ∧ w.cell? ⟨g, 1, none⟩ = some (.slice r (nlen x.natAbs) c) ∧
    Nt N w r (nlen x.natAbs) c x.natAbs ∧ Nt N w d1 nd1 cd1 md1 ∧ Nt N w d2 nd2 cd2 md2 ∧ Bk w (b0 + 2) 38 3 ∧ Below b0 w0 w ∧ N ≤ w.heap.size

def AddJ (N b0 ga gb : Nat) (w0 : World) (s1 s2 : Bool) (a1 a2 d1 d2 : Option Addr) (na1 ca1 mn1 na2 ca2 mn2 nd1 cd1 md1 nd2 cd2 md2 : Nat) (x1 x2 x : Int) (z0 : Act) (L : Nat → Bool) (a : Act) (w : World) : Prop :=
  ∃ u20 u21 u22 u23 u24 u25 u26 u27 u28 u9, a = ((((((((((z0.put (some 20) u20).put (some 21) u21).put (some 22) u22).put (some 23) u23).put (some 24) u24).put (some 25) u25).put (some 26) u26).put (some 27) u27).put (some 28) u28).put (some 9) u9) ∧
    ((L 10 = false ∧ AddB N b0 ga gb w0 s1 s2 a1 a2 d1 d2 na1 ca1 mn1 na2 ca2 mn2 nd1 cd1 md1 nd2 cd2 md2 w ∧ (L 0 = true → u20 = .agg #[.bool s1, .slice a1 na1 ca1]) ∧ (L 1 = true → u21 = .slice d2 nd2 cd2) ∧ (L 2 = true → IsWh N md2 u22 w) ∧ (L 3 = true → IsInt N x1 u23 w) ∧ (L 4 = true → u24 = .agg #[.bool s2, .slice a2 na2 ca2]) ∧ (L 5 = true → u25 = .slice d1 nd1 cd1) ∧ (L 6 = true → IsWh N md1 u26 w) ∧ (L 7 = true → IsInt N x2 u27 w) ∧ (L 8 = true → IsInt N x u28 w) ∧ (L 9 = true → IsBox (b0 + 3) 36 2 u9 w)) ∨
     (L 10 = true ∧ (∀ j, j < 10 → L j = true) ∧ AddCut N b0 w0 x d1 d2 nd1 cd1 md1 nd2 cd2 md2 u9 w))

end Go.Proofs.Ytmljfaplohbjcaa

namespace Go.Proofs.Ytmljfaplohbjcaa
open Go.RowKit

/-- it returns the normal form of q, and a word -/
def RatPost2 (N : Nat) (w : World) (q : Rat) (ok : Bool) (e : Ending) (w' : World) : Prop :=
  ∃ r cr r2 cr2, e = .returned (.tuple #[.agg #[.bool (decide (q.num < 0)), .slice r (nlen q.num.natAbs) cr, .slice r2 (nlen q.den) cr2], .bool ok]) ∧ Nt N w' r (nlen q.num.natAbs) cr q.num.natAbs ∧ Nt N w' r2 (nlen q.den) cr2 q.den ∧ Below w.heap.size w w'
theorem zI_sign_ne (s : Bool) (m : Nat) (h : 0 < m) : ((zI s m).sign == 0) = false := by
  unfold zI
  cases s
  · simp only [Bool.false_eq_true, if_false]; rw [Int.sign_eq_one_of_pos (by omega)]; rfl
  · simp only [if_true]; rw [Int.sign_eq_neg_one_of_neg (by omega)]; rfl
theorem zI_sign_zero (s : Bool) : ((zI s 0).sign == 0) = true := by cases s <;> rfl

set_option maxHeartbeats 4000000 in
theorem rmake_any {N : Nat} (s s' : Bool) (a a' : Option Addr) (na ca m na' ca' m' : Nat) (w : World) (hN : N ≤ w.heap.size) (h : Nt N w a na ca m) (h' : Nt N w a' na' ca' m') (hl : na ≤ 1099511627776) (hl' : na' ≤ 1099511627776) (p : Rat) (hp : mkRat (zI (s != s') m) m' = p) :
    Calls Try.prog 29 #[.agg #[.bool s, .slice a na ca], .agg #[.bool s', .slice a' na' ca']] w (RatPost2 N w p (decide (0 < m'))) := by
  have H := Lib.hid (((h.alloc (.cells #[.bool s, .slice a na ca] 36)).alloc (.cells #[.bool s', .slice a' na' ca'] 36)).alloc (.cells #[.bool false, .slice none 0 0, .slice none 0 0] 38))
  have H' := Lib.hid (((h'.alloc (.cells #[.bool s, .slice a na ca] 36)).alloc (.cells #[.bool s', .slice a' na' ca'] 36)).alloc (.cells #[.bool false, .slice none 0 0, .slice none 0 0] 38))
  have lm := nlen_bound h _ hl
  clear h h'
  rcases Nat.eq_zero_or_pos m' with h0 | h0
  · subst h0
    rw [Rat.mkRat_zero] at hp
    subst hp
    have hc0 := zI_sign_zero s'
    have HD := Lib.hid (show decide (0 < 0) = false from rfl)
    rw [HD.out]
    go_enter Try.func29, Try.ntmps29
    go_wp2_with fail
    refine (isign_any (N := N) _ _ _ _ 0 _ H'.out).mono ?_
    rintro e wa ⟨rfl, hb⟩
    obtain ⟨hcwa, hfwa⟩ := bcell hb
    have hzwa0 : w.heap.size < wa.heap.size := by have := hb.size; (try simp at this); omega
    have hzwa1 : w.heap.size + 1 < wa.heap.size := by have := hb.size; (try simp at this); omega
    have hzwa2 : w.heap.size + 1 + 1 < wa.heap.size := by have := hb.size; (try simp at this); omega
    have HBwa := Lib.hid hb
    clear hb 
    go_wp2_with fail
    refine (rzero_any (N := N) _ (by omega)).mono ?_
    rintro e wb ⟨rx, cx, rx2, cx2, rfl, hn, hn', hb⟩
    obtain ⟨hcwb, hfwb⟩ := bcell hb
    have hzwb0 : w.heap.size < wb.heap.size := by have := hb.size; (try simp at this); omega
    have hzwb1 : w.heap.size + 1 < wb.heap.size := by have := hb.size; (try simp at this); omega
    have hzwb2 : w.heap.size + 1 + 1 < wb.heap.size := by have := hb.size; (try simp at this); omega
    have HBwb := Lib.hid hb
    have HNwb := Lib.hid hn
    have HN'wb := Lib.hid hn'
    clear hb hn hn'
    have HX := Lib.hid ((((Bx.new' ((w.alloc (.cells #[.bool s, .slice a na ca] 36)).alloc (.cells #[.bool s', .slice a' na' ca'] 36)) #[.bool false, .slice none 0 0, .slice none 0 0] 38 (w.heap.size + 1 + 1) (by simp)).below HBwa.out)).below HBwb.out)
    have HF := Lib.hid (fun v0 v1 v2 => fin3 hN (by omega) HX.out HNwb.out HN'wb.out (((bel3 w _ _ _).trans (HBwa.out.mono (by first | omega | (simp; done) | (simp; omega)))).trans (HBwb.out.mono (by first | omega | (simp; done) | (simp; omega)))) v0 v1 v2)
    go_wp2_with fail
    exact bodyPost_ret (v := .tuple #[.agg #[.bool (decide ((0 : Rat).num < 0)), .slice rx (nlen (0 : Rat).num.natAbs) cx, .slice rx2 (nlen (0 : Rat).den) cx2], .bool false]) (by simp [results, Try.results29, go_sem, hcwa, hcwb, hzwa2]) rfl ⟨_, _, _, _, rfl, (HF.out _ _ _).1, (HF.out _ _ _).2.1, (HF.out _ _ _).2.2⟩
  · have hc0 := zI_sign_ne s' m' h0
    have HD := Lib.hid (show decide (0 < m') = true from decide_eq_true h0)
    rw [HD.out]
    obtain ⟨z, hz⟩ : ∃ z, zI (s != s') m = z := ⟨_, rfl⟩
    have lz : nlen z.natAbs ≤ nlen m := by rw [← hz, zI_abs]; exact Nat.le_refl _
    have HQ := Lib.hid (show mkRat (zI (decide (z < 0)) z.natAbs) m' = p by rw [zI_norm, ← hz, hp])
    have HZ := Lib.hid hz
    clear hz hp
    go_enter Try.func29, Try.ntmps29
    go_wp2_with fail
    refine (isign_any (N := N) _ _ _ _ m' _ H'.out).mono ?_
    rintro e wa ⟨rfl, hb⟩
    obtain ⟨hcwa, hfwa⟩ := bcell hb
    have hzwa0 : w.heap.size < wa.heap.size := by have := hb.size; (try simp at this); omega
    have hzwa1 : w.heap.size + 1 < wa.heap.size := by have := hb.size; (try simp at this); omega
    have hzwa2 : w.heap.size + 1 + 1 < wa.heap.size := by have := hb.size; (try simp at this); omega
    have HBwa := Lib.hid hb
    clear hb 
    have k0 : wa.cell? ⟨w.heap.size, 0, none⟩ = some (.bool s) := (HBwa.out.cell (p := ⟨w.heap.size, 0, none⟩) (by first | (simp; done) | (simp; omega))).trans (by go_simp)
    have k1 : wa.cell? ⟨w.heap.size + 1, 0, none⟩ = some (.bool s') := (HBwa.out.cell (p := ⟨w.heap.size + 1, 0, none⟩) (by first | (simp; done) | (simp; omega))).trans (by go_simp)
    have k2 : wa.cell? ⟨w.heap.size, 1, none⟩ = some (.slice a na ca) := (HBwa.out.cell (p := ⟨w.heap.size, 1, none⟩) (by first | (simp; done) | (simp; omega))).trans (by go_simp)
    have k3 : wa.cell? ⟨w.heap.size + 1, 1, none⟩ = some (.slice a' na' ca') := (HBwa.out.cell (p := ⟨w.heap.size + 1, 1, none⟩) (by first | (simp; done) | (simp; omega))).trans (by go_simp)
    have ewa0 : wa.cell? ⟨w.heap.size + 1 + 1, 0, none⟩ = some (.bool false) := (HBwa.out.cell (p := ⟨w.heap.size + 1 + 1, 0, none⟩) (by first | omega | (simp; done) | (simp; omega))).trans (by go_simp)
    have ewa1 : wa.cell? ⟨w.heap.size + 1 + 1, 1, none⟩ = some (.slice none 0 0) := (HBwa.out.cell (p := ⟨w.heap.size + 1 + 1, 1, none⟩) (by first | omega | (simp; done) | (simp; omega))).trans (by go_simp)
    have ewa2 : wa.cell? ⟨w.heap.size + 1 + 1, 2, none⟩ = some (.slice none 0 0) := (HBwa.out.cell (p := ⟨w.heap.size + 1 + 1, 2, none⟩) (by first | omega | (simp; done) | (simp; omega))).trans (by go_simp)
    have zwa : ∀ o, wa.frozen? ⟨w.heap.size + 1 + 1, o, none⟩ = false := fun o => (HBwa.out.frozen (p := ⟨w.heap.size + 1 + 1, o, none⟩) (by first | omega | (simp; done) | (simp; omega))).trans (by go_simp)
    go_wp2_with fail
    go_region_held3 (fun w' => w'.cell? ⟨w.heap.size, 0, none⟩ = some (.bool s) ∧ w'.cell? ⟨w.heap.size + 1, 0, none⟩ = some (.bool s') ∧ w'.cell? ⟨w.heap.size, 1, none⟩ = some (.slice a na ca) ∧ w'.cell? ⟨w.heap.size + 1, 1, none⟩ = some (.slice a' na' ca'))
      (first | (go_keep; done) | ((try dsimp only); (repeat' apply And.intro) <;> (first | (go_keep; done) | (exact cell_keep_alloc_drew (by first | omega | (simp; omega)) (by first | assumption | go_simp)) | (exact cell_keep_alloc (by first | omega | (simp; omega)) (by first | assumption | go_simp)) | (rw [cell_set2 _ _ _ _ _ _ _ _ (by omega)]; assumption) | (rw [cell_set3 _ _ _ _ _ _ _ _ _ _ (by omega)]; assumption))))
      (first
        | (go_at_call 49; refine (make_z (N := N) _ _ _ _ m _ (by exact (show N ≤ wa.heap.size by omega)) (by exact (show Nt N wa _ _ _ m from H.out.below HBwa.out)) (by omega) z HZ.out).mono ?_; rintro e wb ⟨rb, cb', rfl, hn, hb⟩; have kwb0 : wb.cell? ⟨w.heap.size, 0, none⟩ = some (.bool s) := (hb.cell (p := ⟨w.heap.size, 0, none⟩) (by first | (simp; done) | (simp; omega))).trans (by first | exact k0 | go_simp); have kwb1 : wb.cell? ⟨w.heap.size + 1, 0, none⟩ = some (.bool s') := (hb.cell (p := ⟨w.heap.size + 1, 0, none⟩) (by first | (simp; done) | (simp; omega))).trans (by first | exact k1 | go_simp); have kwb2 : wb.cell? ⟨w.heap.size, 1, none⟩ = some (.slice a na ca) := (hb.cell (p := ⟨w.heap.size, 1, none⟩) (by first | (simp; done) | (simp; omega))).trans (by first | exact k2 | go_simp); have kwb3 : wb.cell? ⟨w.heap.size + 1, 1, none⟩ = some (.slice a' na' ca') := (hb.cell (p := ⟨w.heap.size + 1, 1, none⟩) (by first | (simp; done) | (simp; omega))).trans (by first | exact k3 | go_simp); have hzwb0 : w.heap.size < wb.heap.size := (by have := hb.size; (try simp at this); omega); have hzwb1 : w.heap.size + 1 < wb.heap.size := (by have := hb.size; (try simp at this); omega); have hzwb2 : w.heap.size + 1 + 1 < wb.heap.size := (by have := hb.size; (try simp at this); omega); obtain ⟨hcwb, hfwb⟩ := bcell hb; have HBwb := Lib.hid hb; have HNwb := Lib.hid hn; have ewb0 : wb.cell? ⟨w.heap.size + 1 + 1, 0, none⟩ = some (.bool false) := (hb.cell (p := ⟨w.heap.size + 1 + 1, 0, none⟩) (by first | omega | (simp; done) | (simp; omega))).trans (by exact ewa0); have ewb1 : wb.cell? ⟨w.heap.size + 1 + 1, 1, none⟩ = some (.slice none 0 0) := (hb.cell (p := ⟨w.heap.size + 1 + 1, 1, none⟩) (by first | omega | (simp; done) | (simp; omega))).trans (by exact ewa1); have ewb2 : wb.cell? ⟨w.heap.size + 1 + 1, 2, none⟩ = some (.slice none 0 0) := (hb.cell (p := ⟨w.heap.size + 1 + 1, 2, none⟩) (by first | omega | (simp; done) | (simp; omega))).trans (by exact ewa2); have zwb : ∀ o, wb.frozen? ⟨w.heap.size + 1 + 1, o, none⟩ = false := (fun o => (hb.frozen (p := ⟨w.heap.size + 1 + 1, o, none⟩) (by first | omega | (simp; done) | (simp; omega))).trans (by exact zwa o)); clear hb hn)
        | (go_at_call 35; refine (reduce_any (N := N) _ _ _ _ _ z.natAbs _ _ m' _ (by omega) (by exact HNwb.out) (by exact (H'.out.below HBwa.out).below (bel_of_drew HBwb.out)) (by omega) (by omega) h0 p HQ.out).mono ?_; rintro e wc ⟨rx, cx, rx2, cx2, rfl, hn, hn', hb⟩; have kwc0 : wc.cell? ⟨w.heap.size, 0, none⟩ = some (.bool s) := (hb.cell (p := ⟨w.heap.size, 0, none⟩) (by omega)).trans kwb0; have kwc1 : wc.cell? ⟨w.heap.size + 1, 0, none⟩ = some (.bool s') := (hb.cell (p := ⟨w.heap.size + 1, 0, none⟩) (by omega)).trans kwb1; have kwc2 : wc.cell? ⟨w.heap.size, 1, none⟩ = some (.slice a na ca) := (hb.cell (p := ⟨w.heap.size, 1, none⟩) (by omega)).trans kwb2; have kwc3 : wc.cell? ⟨w.heap.size + 1, 1, none⟩ = some (.slice a' na' ca') := (hb.cell (p := ⟨w.heap.size + 1, 1, none⟩) (by omega)).trans kwb3; have hzwc0 : w.heap.size < wc.heap.size := (by have := hb.size; (try simp at this); omega); have hzwc1 : w.heap.size + 1 < wc.heap.size := (by have := hb.size; (try simp at this); omega); have hzwc2 : w.heap.size + 1 + 1 < wc.heap.size := (by have := hb.size; (try simp at this); omega); obtain ⟨hcwc, hfwc⟩ := bcell hb; have HBwc := Lib.hid hb; have HNwc := Lib.hid hn; have HN'wc := Lib.hid hn'; have ewc0 : wc.cell? ⟨w.heap.size + 1 + 1, 0, none⟩ = some (.bool false) := (hb.cell (p := ⟨w.heap.size + 1 + 1, 0, none⟩) (by first | omega | (simp; done) | (simp; omega))).trans (by exact ewb0); have ewc1 : wc.cell? ⟨w.heap.size + 1 + 1, 1, none⟩ = some (.slice none 0 0) := (hb.cell (p := ⟨w.heap.size + 1 + 1, 1, none⟩) (by first | omega | (simp; done) | (simp; omega))).trans (by exact ewb1); have ewc2 : wc.cell? ⟨w.heap.size + 1 + 1, 2, none⟩ = some (.slice none 0 0) := (hb.cell (p := ⟨w.heap.size + 1 + 1, 2, none⟩) (by first | omega | (simp; done) | (simp; omega))).trans (by exact ewb2); have zwc : ∀ o, wc.frozen? ⟨w.heap.size + 1 + 1, o, none⟩ = false := (fun o => (hb.frozen (p := ⟨w.heap.size + 1 + 1, o, none⟩) (by first | omega | (simp; done) | (simp; omega))).trans (by exact zwb o)); clear hb hn hn'))
    have HX := Lib.hid ((((Bx.new' ((w.alloc (.cells #[.bool s, .slice a na ca] 36)).alloc (.cells #[.bool s', .slice a' na' ca'] 36)) #[.bool false, .slice none 0 0, .slice none 0 0] 38 (w.heap.size + 1 + 1) (by simp)).below HBwa.out).drewB HBwb.out).below HBwc.out)
    have HF := Lib.hid (fun v0 v1 v2 => fin3 hN (by omega) HX.out HNwc.out HN'wc.out ((((bel3 w _ _ _).trans (HBwa.out.mono (by first | omega | (simp; done) | (simp; omega)))).trans ((bel_of_drew HBwb.out).mono (by first | omega | (simp; done) | (simp; omega)))).trans (HBwc.out.mono (by first | omega | (simp; done) | (simp; omega)))) v0 v1 v2)
    have t0 : ∀ u, (wc.setCell ⟨w.heap.size + 1 + 1, 0, none⟩ u).cell? ⟨w.heap.size + 1 + 1, 0, none⟩ = some u := fun u => World.cell?_setCell_same _ _ _ ewc0
    have t1 : ∀ u v, ((wc.setCell ⟨w.heap.size + 1 + 1, 0, none⟩ u).setCell ⟨w.heap.size + 1 + 1, 1, none⟩ v).cell? ⟨w.heap.size + 1 + 1, 1, none⟩ = some v := fun u v => (set2_cells ewc0 ewc1).2
    have t2 : ∀ u v x, (((wc.setCell ⟨w.heap.size + 1 + 1, 0, none⟩ u).setCell ⟨w.heap.size + 1 + 1, 1, none⟩ v).setCell ⟨w.heap.size + 1 + 1, 2, none⟩ x).cell? ⟨w.heap.size + 1 + 1, 2, none⟩ = some x := fun u v x => World.cell?_setCell_same _ _ _ ((World.cell?_setCell_other _ _ _ _ (by simp)).trans ((World.cell?_setCell_other _ _ _ _ (by simp)).trans ewc2))
    go_wp2_with fail
    exact bodyPost_ret (v := .tuple #[.agg #[.bool (decide ((p).num < 0)), .slice rx (nlen (p).num.natAbs) cx, .slice rx2 (nlen (p).den) cx2], .bool true]) (by simp [results, Try.results29, go_sem, t0, t1, t2]) rfl ⟨_, _, _, _, rfl, (HF.out _ _ _).1, (HF.out _ _ _).2.1, (HF.out _ _ _).2.2⟩
    
set_option maxHeartbeats 4000000 in
theorem rof_any {N : Nat} (n d : Int) (w : World) (hN : N ≤ w.heap.size) (n1 : -9223372036854775808 ≤ n) (n2 : n ≤ 9223372036854775807) (d1 : -9223372036854775808 ≤ d) (d2 : d ≤ 9223372036854775807) (p : Rat) (hp : mkRat (zI (decide (n < 0) != decide (d < 0)) n.natAbs) d.natAbs = p) :
    Calls Try.prog 13 #[.int .i64 n, .int .i64 d] w (RatPost2 N w p (decide (0 < d.natAbs))) := by
  have HP := Lib.hid hp
  have l1 := nlen_two (m := n.natAbs) (by omega)
  have l2 := nlen_two (m := d.natAbs) (by omega)
  clear hp
  go_enter Try.func13, Try.ntmps13
  go_wp2_with fail
  refine (iof_any (N := N) n _ (by simp; omega) n1 n2).mono ?_
  rintro e wa ⟨ra, ca, rfl, hn, hb⟩
  obtain ⟨hcwa, hfwa⟩ := bcell hb
  have hzwa0 : w.heap.size < wa.heap.size := by have := hb.size; (try simp at this); omega
  have HBwa := Lib.hid hb
  have HNwa := Lib.hid hn
  clear hb hn
  go_wp2_with fail
  refine (iof_any (N := N) d _ (by omega) d1 d2).mono ?_
  rintro e wb ⟨rb, cb', rfl, hn, hb⟩
  obtain ⟨hcwb, hfwb⟩ := bcell hb
  have hzwb0 : w.heap.size < wb.heap.size := by have := hb.size; (try simp at this); omega
  have HBwb := Lib.hid hb
  have HNwb := Lib.hid hn
  clear hb hn
  go_wp2_with fail
  refine (rmake_any (N := N) _ _ _ _ _ _ n.natAbs _ _ d.natAbs _ (by omega) (HNwa.out.below HBwb.out) HNwb.out (by omega) (by omega) p HP.out).mono ?_
  rintro e wc ⟨rx, cx, rx2, cx2, rfl, hn, hn', hb⟩
  obtain ⟨hcwc, hfwc⟩ := bcell hb
  have hzwc0 : w.heap.size < wc.heap.size := by have := hb.size; (try simp at this); omega
  have HBwc := Lib.hid hb
  have HNwc := Lib.hid hn
  have HN'wc := Lib.hid hn'
  clear hb hn hn'
  have HX := Lib.hid ((((Bx.new' w #[.bool false, .slice none 0 0, .slice none 0 0] 38 (w.heap.size) (by simp)).below HBwa.out).below HBwb.out).below HBwc.out)
  have HF := Lib.hid (fun v0 v1 v2 => fin3 hN (by omega) HX.out HNwc.out HN'wc.out ((((bel1 w _).trans (HBwa.out.mono (by first | omega | (simp; done) | (simp; omega)))).trans (HBwb.out.mono (by first | omega | (simp; done) | (simp; omega)))).trans (HBwc.out.mono (by first | omega | (simp; done) | (simp; omega)))) v0 v1 v2)
  go_wp2_with fail
  exact bodyPost_ret (v := .tuple #[.agg #[.bool (decide ((p).num < 0)), .slice rx (nlen (p).num.natAbs) cx, .slice rx2 (nlen (p).den) cx2], .bool (decide (0 < d.natAbs))]) (by simp [results, Try.results13, go_sem, hcwa, hcwb, hcwc, hzwa0, hzwb0]) rfl ⟨_, _, _, _, rfl, (HF.out _ _ _).1, (HF.out _ _ _).2.1, (HF.out _ _ _).2.2⟩
  

end Go.Proofs.Ytmljfaplohbjcaa

namespace Go.Proofs.Ytmljfaplohbjcaa
open Go.RowKit

/-- u is the rational number q in normal form -/
def IsRat (N : Nat) (q : Rat) (u : Value) (w : World) : Prop :=
  ∃ r c r2 c2, u = .agg #[.bool (decide (q.num < 0)), .slice r (nlen q.num.natAbs) c, .slice r2 (nlen q.den) c2] ∧ Nt N w r (nlen q.num.natAbs) c q.num.natAbs ∧ Nt N w r2 (nlen q.den) c2 q.den
theorem IsRat.below {N : Nat} {q : Rat} {u : Value} {w w' : World} (h : IsRat N q u w) (hb : Below w.heap.size w w') : IsRat N q u w' := by
  obtain ⟨r, c, r2, c2, e, h1, h2⟩ := h; exact ⟨r, c, r2, c2, e, h1.below hb, h2.below hb⟩
theorem set3_cells {w : World} {g : Nat} {a0 a1 a2 v0 v1 v2 : Value} (h0 : w.cell? ⟨g, 0, none⟩ = some a0) (h1 : w.cell? ⟨g, 1, none⟩ = some a1) (h2 : w.cell? ⟨g, 2, none⟩ = some a2) :
    (((w.setCell ⟨g, 0, none⟩ v0).setCell ⟨g, 1, none⟩ v1).setCell ⟨g, 2, none⟩ v2).cell? ⟨g, 0, none⟩ = some v0 ∧
    (((w.setCell ⟨g, 0, none⟩ v0).setCell ⟨g, 1, none⟩ v1).setCell ⟨g, 2, none⟩ v2).cell? ⟨g, 1, none⟩ = some v1 ∧
    (((w.setCell ⟨g, 0, none⟩ v0).setCell ⟨g, 1, none⟩ v1).setCell ⟨g, 2, none⟩ v2).cell? ⟨g, 2, none⟩ = some v2 :=
  ⟨(World.cell?_setCell_other _ _ _ _ (by simp)).trans (set2_cells h0 h1).1, (World.cell?_setCell_other _ _ _ _ (by simp)).trans (set2_cells h0 h1).2,
   World.cell?_setCell_same _ _ _ ((World.cell?_setCell_other _ _ _ _ (by simp)).trans ((World.cell?_setCell_other _ _ _ _ (by simp)).trans h2))⟩
/-- the region has begun at W, and nothing of W has changed -/
def Since (W w : World) : Prop := Below W.heap.size W w ∧ W.heap.size ≤ w.heap.size
theorem Since.below {W w w' : World} (h : Since W w) (hb : Below w.heap.size w w') : Since W w' := ⟨h.1.trans (hb.mono h.2), Nat.le_trans h.2 hb.size⟩
theorem Since.drawn (W : World) : Since W W.drew := ⟨(Below.refl _ _).drew, Nat.le_refl _⟩
/-- s points to a box of its own that holds q in normal form -/
def CutRat (N : Nat) (W : World) (q : Rat) (s : Value) (w : World) : Prop :=
  ∃ g r c r2 c2, s = .pointer (some ⟨g, 0, none⟩) ∧ W.heap.size ≤ g ∧ Bk w g 38 3 ∧ w.cell? ⟨g, 0, none⟩ = some (.bool (decide (q.num < 0))) ∧ w.cell? ⟨g, 1, none⟩ = some (.slice r (nlen q.num.natAbs) c) ∧ w.cell? ⟨g, 2, none⟩ = some (.slice r2 (nlen q.den) c2) ∧
    Nt N w r (nlen q.num.natAbs) c q.num.natAbs ∧ Nt N w r2 (nlen q.den) c2 q.den ∧ Since W w
theorem cutRat_of {N g : Nat} {W w : World} {q : Rat} {r r2 : Option Addr} {c c2 : Nat} (hN : N ≤ W.heap.size) (hg : W.heap.size ≤ g) (hk : Bk w g 38 3) (h1 : Nt N w r (nlen q.num.natAbs) c q.num.natAbs) (h2 : Nt N w r2 (nlen q.den) c2 q.den) (hb : Since W w) :
    CutRat N W q (.pointer (some ⟨g, 0, none⟩)) (((w.setCell ⟨g, 0, none⟩ (.bool (decide (q.num < 0)))).setCell ⟨g, 1, none⟩ (.slice r (nlen q.num.natAbs) c)).setCell ⟨g, 2, none⟩ (.slice r2 (nlen q.den) c2)) := by
  obtain ⟨v0, k0⟩ := hk.cell (o := 0) (by omega)
  obtain ⟨v1, k1⟩ := hk.cell (o := 1) (by omega)
  obtain ⟨v2, k2⟩ := hk.cell (o := 2) (by omega)
  have hs := set3_cells (v0 := .bool (decide (q.num < 0))) (v1 := .slice r (nlen q.num.natAbs) c) (v2 := .slice r2 (nlen q.den) c2) k0 k1 k2
  have hf := fin3 hN hg hk.bx h1 h2 hb.1 (.bool (decide (q.num < 0))) (.slice r (nlen q.num.natAbs) c) (.slice r2 (nlen q.den) c2)
  exact ⟨g, r, c, r2, c2, rfl, hg, ((hk.set _ _).set _ _).set _ _, hs.1, hs.2.1, hs.2.2, hf.1, hf.2.1, hf.2.2, by simpa [World.setCell] using hb.2⟩

end Go.Proofs.Ytmljfaplohbjcaa

namespace Go.Proofs.Ytmljfaplohbjcaa
open Go.RowKit

theorem rsz_mul (p q : Rat) : rsz (p * q) ≤ rsz p + rsz q := by
  have e : p * q = mkRat (p.num * q.num) (p.den * q.den) := by
    have h1 := Rat.mkRat_mul_mkRat p.num q.num p.den q.den
    rw [Rat.mkRat_self, Rat.mkRat_self] at h1
    exact h1
  rw [e]
  have l1 := nlen_mul p.num.natAbs q.num.natAbs
  have l2 := nlen_mul p.den q.den
  have := rsz_pos p
  have := rsz_pos q
  have h1 : nlen p.num.natAbs ≤ rsz p ∧ nlen p.den ≤ rsz p := by unfold rsz; omega
  have h2 : nlen q.num.natAbs ≤ rsz q ∧ nlen q.den ≤ rsz q := by unfold rsz; omega
  exact rsz_mk _ _ _ (by omega) (by rw [Int.natAbs_mul]; omega) (by omega)
theorem Rt.rsz_le {N : Nat} {w : World} {s : Bool} {a d : Option Addr} {na ca nd cd L : Nat} {q : Rat} (h : Rt N w s a na ca d nd cd q L) : rsz q ≤ L := by
  obtain ⟨l0, l1, l2, mn, md, hn, hd, rfl⟩ := h
  exact rsz_mk _ _ _ l0 (by rw [zI_abs]; exact nlen_bound hn _ l1) (nlen_bound hd _ l2)

end Go.Proofs.Ytmljfaplohbjcaa

namespace Go.Proofs.Ytmljfaplohbjcaa
open Go.RowKit

theorem rsz_neg (q : Rat) : rsz (-q) = rsz q := by
  have h1 : (-q).num = -q.num := rfl
  have h2 : (-q).den = q.den := rfl
  unfold rsz; rw [h1, h2, Int.natAbs_neg]
theorem mk_div (x1 x2 : Int) : mkRat (zI (decide (x1 < 0) != decide (x2 < 0)) x1.natAbs) x2.natAbs = (x1 : Rat) / (x2 : Rat) := by
  have h1 : zI (decide (x1 < 0) != decide (x2 < 0)) x1.natAbs = if x2 < 0 then -x1 else x1 := by
    by_cases a : x1 < 0 <;> by_cases b : x2 < 0 <;> simp [zI, a, b] <;> omega
  rw [h1, Rat.mkRat_eq_div]
  by_cases b : x2 < 0
  · rw [if_pos b]
    have h2 : ((x2.natAbs : Nat) : Rat) = -(x2 : Rat) := by
      have : (x2.natAbs : Int) = -x2 := by omega
      have h3 : (((x2.natAbs : Nat) : Int) : Rat) = ((-x2 : Int) : Rat) := by rw [this]
      rw [Rat.intCast_neg] at h3
      exact h3
    rw [h2, Rat.intCast_neg]
    grind
  · rw [if_neg b]
    have h2 : ((x2.natAbs : Nat) : Rat) = (x2 : Rat) := by
      have : (x2.natAbs : Int) = x2 := by omega
      have h3 : (((x2.natAbs : Nat) : Int) : Rat) = ((x2 : Int) : Rat) := by rw [this]
      exact h3
    rw [h2]
theorem div_mk (z1 z2 x1 x2 : Int) (d1 d2 : Nat) (h1 : 0 < d1) (h2 : 0 < d2) (q q' p : Rat) (e1 : mkRat z1 d1 = q) (e2 : mkRat z2 d2 = q') (hp : q / q' = p) (a1 : z1 * zI false d2 = x1) (a2 : z2 * zI false d1 = x2) : mkRat (zI (decide (x1 < 0) != decide (x2 < 0)) x1.natAbs) x2.natAbs = p := by
  rw [mk_div, ← hp, ← e1, ← e2, ← a1, ← a2, Rat.mkRat_eq_div, Rat.mkRat_eq_div]
  have c1 : ((zI false d2 : Int) : Rat) = (d2 : Rat) := rfl
  have c2 : ((zI false d1 : Int) : Rat) = (d1 : Rat) := rfl
  rw [Rat.intCast_mul, Rat.intCast_mul, c1, c2]
  have n1 : (d1 : Rat) ≠ 0 := by intro e; have := Rat.natCast_inj.1 (e.trans (by rfl : (0 : Rat) = ((0 : Nat) : Rat))); omega
  have n2 : (d2 : Rat) ≠ 0 := by intro e; have := Rat.natCast_inj.1 (e.trans (by rfl : (0 : Rat) = ((0 : Nat) : Rat))); omega
  grind
theorem div_ok (z2 x2 : Int) (d1 d2 : Nat) (h1 : 0 < d1) (h2 : 0 < d2) (q' : Rat) (e2 : mkRat z2 d2 = q') (a2 : z2 * zI false d1 = x2) : decide (0 < x2.natAbs) = decide (q' ≠ 0) := by
  have hz : q' = 0 ↔ z2 = 0 := by rw [← e2]; exact Rat.mkRat_eq_zero (by omega)
  have hx : x2 = 0 ↔ z2 = 0 := by
    rw [← a2]
    have : zI false d1 ≠ 0 := by show (d1 : Int) ≠ 0; omega
    exact ⟨fun h => (Int.mul_eq_zero.1 h).resolve_right this, fun h => by rw [h]; exact Int.zero_mul _⟩
  apply decide_eq_decide.2
  rw [Ne, hz, ← hx]; omega

end Go.Proofs.Ytmljfaplohbjcaa

namespace Go.Proofs.Ytmljfaplohbjcaa
open Go.RowKit

theorem calls_name {P : Program} {f : FuncId} {args : Array Value} {w : World} {Q : Ending → World → Prop} (h : ∀ W, w = W → Calls P f args W Q) : Calls P f args w Q := h w rfl
theorem region_name {P : Program} {Q : Exit → Act → World → Prop} {id : Nat} {ops : Array Oper} {b : Bool} {a : Act} {w : World} (h : ∀ W, w = W → (Code.region id ops b).wp P Q a W) : (Code.region id ops b).wp P Q a w := h w rfl

/-- old blocks and rows of limbs are as they were -/
def Kp (N : Nat) (w w' : World) : Prop := w.heap.size ≤ w'.heap.size ∧ ∀ b, b < w.heap.size → Own N 90 w b → w'.heap[b]? = w.heap[b]?
theorem Kp.refl (N : Nat) (w : World) : Kp N w w := ⟨Nat.le_refl _, fun _ _ _ => rfl⟩
theorem Kp.trans {N : Nat} {a b c : World} (h : Kp N a b) (k : Kp N b c) : Kp N a c :=
  ⟨Nat.le_trans h.1 k.1, fun i hi ho => (k.2 i (by have := h.1; omega) (ho.of_block (h.2 i hi ho))).trans (h.2 i hi ho)⟩
theorem Kp.below {N : Nat} {w w' : World} (hb : Below w.heap.size w w') : Kp N w w' := ⟨hb.size, fun b h _ => hb.block b h⟩
theorem Kp.alloc {N : Nat} {w W : World} (h : Kp N w W) (o : Obj) : Kp N w (W.alloc o) := h.trans (Kp.below (bel1 W o))
theorem Kp.drew {N : Nat} {w W : World} (h : Kp N w W) : Kp N w W.drew := h.trans (Kp.below (Below.refl _ _).drew)
theorem Kp.set {N : Nat} {w W : World} {b o : Nat} {T : TypeId} (h : Kp N w W) (hN : N ≤ b) (hp : Bx W b T) (hT : T ≠ 90) (v : Value) : Kp N w (W.setCell ⟨b, o, none⟩ v) := by
  refine ⟨by simpa [World.setCell] using h.1, fun i hi ho => ?_⟩
  have e := h.2 i hi ho
  have hne : i ≠ b := by
    rintro rfl
    rcases ho with ho | ⟨c, z, ho⟩
    · omega
    · obtain ⟨c2, z2, hp⟩ := hp
      rw [ho, hp] at e; simp at e; exact hT e.2.1
  exact (Below.heap_setCell W ⟨b, o, none⟩ v i hne).trans e
theorem Nt.keep {N : Nat} {w w' : World} {a : Option Addr} {n cap m : Nat} (h : Nt N w a n cap m) (k : Kp N w w') : Nt N w' a n cap m := by
  obtain ⟨h0, h1, h2, h3⟩ := h
  refine ⟨h0, h1, h2, fun hn => ?_⟩
  obtain ⟨b, off, e, ho, hc⟩ := h3 hn
  have hlt : b < w.heap.size := World.block_lt_of_cell? w _ (hc 0 hn)
  have eb := k.2 b hlt ho
  exact ⟨b, off, e, ho.of_block eb, fun i hi => (World.cell?_of_block (w := w) (a := ⟨b, off + i, none⟩) eb).trans (hc i hi)⟩
theorem Rt.keep {N : Nat} {w w' : World} {s : Bool} {a d : Option Addr} {na ca nd cd L : Nat} {q : Rat} (h : Rt N w s a na ca d nd cd q L) (k : Kp N w w') : Rt N w' s a na ca d nd cd q L := by
  obtain ⟨h0, h1, h2, mn, md, h3, h4, h5⟩ := h
  exact ⟨h0, h1, h2, mn, md, h3.keep k, h4.keep k, h5⟩
/-- block b is a box, but no row of limbs -/
def Bn (w : World) (b : Nat) : Prop := ∃ T, Bx w b T ∧ T ≠ 90
theorem Bx.bn {w : World} {b : Nat} {T : TypeId} (h : Bx w b T) (hT : T ≠ 90) : Bn w b := ⟨T, h, hT⟩
theorem Bn.alloc {w : World} {b : Nat} (h : Bn w b) (o : Obj) : Bn (w.alloc o) b := by obtain ⟨T, h, hT⟩ := h; exact ⟨T, h.alloc o, hT⟩
theorem Bn.set {w : World} {b : Nat} (h : Bn w b) (p : Addr) (v : Value) : Bn (w.setCell p v) b := by obtain ⟨T, h, hT⟩ := h; exact ⟨T, h.set p v, hT⟩
theorem Bn.drew {w : World} {b : Nat} (h : Bn w b) : Bn w.drew b := h
theorem Bn.below {w w' : World} {b : Nat} (h : Bn w b) (hb : Below w.heap.size w w') : Bn w' b := by obtain ⟨T, h, hT⟩ := h; exact ⟨T, h.below hb, hT⟩
theorem Bn.new (w : World) (c : Array Value) (T : TypeId) (b : Nat) (h : b = w.heap.size) (hT : T ≠ 90) : Bn (w.alloc (.cells c T)) b := ⟨T, Bx.new' w c T b h, hT⟩
theorem Kp.put {N : Nat} {w W : World} {b o : Nat} (h : Kp N w W) (hN : N ≤ b) (hp : Bn W b) (v : Value) : Kp N w (W.setCell ⟨b, o, none⟩ v) := by obtain ⟨T, hp, hT⟩ := hp; exact h.set hN hp hT v
theorem Bx.drew {w : World} {b : Nat} {T : TypeId} (h : Bx w b T) : Bx w.drew b T := h
theorem size_set (w : World) (p : Addr) (v : Value) : (w.setCell p v).heap.size = w.heap.size := by simp [World.setCell]
theorem size_drew (w : World) : w.drew.heap.size = w.heap.size := rfl
theorem size_alloc (w : World) (o : Obj) : (w.alloc o).heap.size = w.heap.size + 1 := by simp

/-- block g is a box of three cells -/
def Box3 (w : World) (g : Nat) (v0 v1 v2 : Value) : Prop := g < w.heap.size ∧ Bn w g ∧ (∀ o, w.frozen? ⟨g, o, none⟩ = false) ∧ w.cell? ⟨g, 0, none⟩ = some v0 ∧ w.cell? ⟨g, 1, none⟩ = some v1 ∧ w.cell? ⟨g, 2, none⟩ = some v2
/-- block g holds the rational number q, of at most L limbs -/
def QBox (N : Nat) (w : World) (g : Nat) (q : Rat) (L : Nat) : Prop := ∃ s a na ca d nd cd, Box3 w g (.bool s) (.slice a na ca) (.slice d nd cd) ∧ Rt N w s a na ca d nd cd q L
/-- block g holds the rational number q in normal form -/
def NBox (N : Nat) (w : World) (g : Nat) (q : Rat) : Prop := ∃ r c r2 c2, Box3 w g (.bool (decide (q.num < 0))) (.slice r (nlen q.num.natAbs) c) (.slice r2 (nlen q.den) c2) ∧ Nt N w r (nlen q.num.natAbs) c q.num.natAbs ∧ Nt N w r2 (nlen q.den) c2 q.den

/-- what a walk keeps, by the build of its world -/
theorem KpA {P : Prop} (h : P := by (repeat' (first | with_reducible exact Kp.refl _ _ | with_reducible exact Hid.out (by with_reducible assumption) | with_reducible apply Kp.alloc | with_reducible apply Kp.drew | (with_reducible refine Kp.put ?_ ?_ ?_ _; rotate_left; (focus (first | omega | (simp; done) | (simp; omega))); rotate_left) | (with_reducible refine Bn.new _ _ _ _ ?_ ?_; (focus (first | omega | (simp; done) | (simp; omega))); decide) | with_reducible apply Bn.alloc | with_reducible apply Bn.drew | with_reducible apply Bn.set))) : P := h
theorem BlA {P : Prop} (h : P := by (repeat' (first | with_reducible exact Below.refl _ _ | with_reducible exact Hid.out (by with_reducible assumption) | (with_reducible refine Below.alloc ?_ ?_ _; rotate_left; (focus (first | omega | (simp; done) | (simp; omega)))) | with_reducible apply Below.drew | (with_reducible refine Below.setCell ?_ ?_ _; rotate_left; (focus (first | omega | (simp; done) | (simp; omega))))))) : P := h
theorem KBA {P : Prop} (h : P := by first | ((repeat' (first | with_reducible exact Kp.refl _ _ | with_reducible exact Hid.out (by with_reducible assumption) | with_reducible apply Kp.alloc | with_reducible apply Kp.drew | (with_reducible refine Kp.put ?_ ?_ ?_ _; rotate_left; (focus (first | omega | (simp; done) | (simp; omega))); rotate_left) | (with_reducible refine Bn.new _ _ _ _ ?_ ?_; (focus (first | omega | (simp; done) | (simp; omega))); decide) | with_reducible apply Bn.alloc | with_reducible apply Bn.drew | with_reducible apply Bn.set)); done) | ((repeat' (first | with_reducible exact Below.refl _ _ | with_reducible exact Hid.out (by with_reducible assumption) | (with_reducible refine Below.alloc ?_ ?_ _; rotate_left; (focus (first | omega | (simp; done) | (simp; omega)))) | with_reducible apply Below.drew | (with_reducible refine Below.setCell ?_ ?_ _; rotate_left; (focus (first | omega | (simp; done) | (simp; omega)))))); done) | (simp; omega)) : P := h

end Go.Proofs.Ytmljfaplohbjcaa
