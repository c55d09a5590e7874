/- Contracts of Rate in exposure and in the reference, and of law37's limbs and same. -/
import Derived.Test.YtnidfpilmmhniaaExpD
namespace Go.Proofs.Ytnidfpilmmhniaa
open Go.RowKit

/-- it returns the normal form of q, and an error code -/
def RatPostE (N : Nat) (w : World) (q : Rat) (c : Int) (e : Ending) (w' : World) : Prop :=
  ∃ r cr r2 cr2, e = .returned (.tuple #[.agg #[.bool (decide (q.num < 0)), .slice r (nlen q.num.natAbs) cr, .slice r2 (nlen q.den) cr2], .int .i64 c]) ∧ Nt N w' r (nlen q.num.natAbs) cr q.num.natAbs ∧ Nt N w' r2 (nlen q.den) cr2 q.den ∧ Below w.heap.size w w'

set_option maxHeartbeats 2000000 in
theorem rate_no {N : Nat} (v : Value) (item served : Int) (w : World) (hN : N ≤ w.heap.size) (hs : served < 1) (p : Rat) (hp : ((0 : Int) : Rat) = p) :
    Calls Try.prog 22 #[v, .int .i64 item, .int .i64 served] w (RatPostE N w p 20) := by
  have HP := Lib.hid hp
  clear hp
  go_enter Try.func22, Try.ntmps22
  go_wp2_with fail
  refine (ewhole_any (N := N) 0 _ (by simp; omega) (by omega) (by omega) p HP.out).mono ?_
  rintro e wa ⟨rx, cx, rx2, cx2, rfl, hn, hn', hb⟩
  obtain ⟨hcwa, hfwa⟩ := bcell hb
  have hzwa0 : w.heap.size < wa.heap.size := by have := hb.size; (try simp at this); omega
  have HBwa := Lib.hid hb
  have HNwa := Lib.hid hn
  have HN'wa := Lib.hid hn'
  clear hb hn hn'
  have HX := Lib.hid ((Bx.new w #[.bool false, .slice none 0 0, .slice none 0 0] 29).below HBwa.out)
  have HF := Lib.hid (fun v0 v1 v2 => fin3 hN (Nat.le_refl _) HX.out HNwa.out HN'wa.out ((bel1 w _).trans (HBwa.out.mono (by first | omega | (simp; done) | (simp; omega)))) v0 v1 v2)
  go_wp2_with fail
  exact bodyPost_ret (v := .tuple #[.agg #[.bool (decide ((p).num < 0)), .slice rx (nlen (p).num.natAbs) cx, .slice rx2 (nlen (p).den) cx2], .int .i64 20]) (by simp [results, Try.results22, go_sem, hcwa]) rfl ⟨_, _, _, _, rfl, (HF.out _ _ _).1, (HF.out _ _ _).2.1, (HF.out _ _ _).2.2⟩
  
set_option maxHeartbeats 2000000 in
theorem rate_yes {N : Nat} (a : Option Addr) (n cap : Nat) (it ct : Nat → Int) (item served : Int) (w : World) (hN : N ≤ w.heap.size) (h : Us w a n cap it ct) (hs : 1 ≤ served) (x : Int) (hx : cntN it ct item n = x) (p : Rat) (hp : mkRat (zI (decide (x < 0) != decide (lim served < 0)) x.natAbs) (lim served).natAbs = p) :
    Calls Try.prog 22 #[.slice a n cap, .int .i64 item, .int .i64 served] w (RatPostE N w p 0) := by
  have H := Lib.hid (h.alloc (.cells #[.bool false, .slice none 0 0, .slice none 0 0] 29))
  have HC := Lib.hid hx
  have HP := Lib.hid hp
  obtain ⟨b0, b1⟩ := cntN_bd it ct item n
  rw [hx] at b0 b1
  obtain ⟨l0, l1⟩ := lim_bd served
  clear h hx hp
  go_enter Try.func22, Try.ntmps22
  go_wp2_with fail
  refine (count_any a n cap it ct item _ H.out).mono ?_
  rw [HC.out]
  rintro e wa ⟨rfl, hb⟩
  obtain ⟨hcwa, hfwa⟩ := bcell hb
  have hzwa0 : w.heap.size < wa.heap.size := by have := hb.size; (try simp at this); omega
  have HBwa := Lib.hid hb
  clear hb 
  go_wp2_with fail
  refine (limited_any _ _).mono ?_
  rintro e w' ⟨rfl, rfl⟩
  go_wp2_with fail
  refine (rof_any (N := N) x (lim served) _ (by first | omega | (simp; omega)) (by omega) (by omega) (by omega) (by omega) p HP.out).mono ?_
  rintro e wb ⟨rx, cx, rx2, cx2, rfl, hn, hn', hb⟩
  obtain ⟨hcwb, hfwb⟩ := bcell hb
  have hzwb0 : w.heap.size < wb.heap.size := by have := hb.size; (try simp at this); omega
  have HBwb := Lib.hid hb
  have HNwb := Lib.hid hn
  have HN'wb := Lib.hid hn'
  clear hb hn hn'
  have HX := Lib.hid (((Bx.new w #[.bool false, .slice none 0 0, .slice none 0 0] 29).below HBwa.out).below HBwb.out)
  have HF := Lib.hid (fun v0 v1 v2 => fin3 hN (Nat.le_refl _) HX.out HNwb.out HN'wb.out (((bel1 w _).trans (HBwa.out.mono (by first | omega | (simp; done) | (simp; omega)))).trans (HBwb.out.mono (by first | omega | (simp; done) | (simp; omega)))) v0 v1 v2)
  go_wp2_with fail
  exact bodyPost_ret (v := .tuple #[.agg #[.bool (decide ((p).num < 0)), .slice rx (nlen (p).num.natAbs) cx, .slice rx2 (nlen (p).den) cx2], .int .i64 0]) (by simp [results, Try.results22, go_sem, hcwa, hcwb, hzwa0, hzwb0]) rfl ⟨_, _, _, _, rfl, (HF.out _ _ _).1.alloc _, (HF.out _ _ _).2.1.alloc _, (HF.out _ _ _).2.2.trans ((bel1 _ _).mono (by simp; omega))⟩
  
set_option maxHeartbeats 2000000 in
theorem xrate_no {N : Nat} (v : Value) (item served : Int) (w : World) (hN : N ≤ w.heap.size) (hs : served < 1) (p : Rat) (hp : ((0 : Int) : Rat) = p) :
    Calls Try.prog 23 #[v, .int .i64 item, .int .i64 served] w (RatPostE N w p 20) := by
  have HP := Lib.hid hp
  clear hp
  go_enter Try.func23, Try.ntmps23
  go_wp2_with fail
  refine (xewhole_any (N := N) 0 _ (by simp; omega) (by omega) (by omega) p HP.out).mono ?_
  rintro e wa ⟨rx, cx, rx2, cx2, rfl, hn, hn', hb⟩
  obtain ⟨hcwa, hfwa⟩ := bcell hb
  have hzwa0 : w.heap.size < wa.heap.size := by have := hb.size; (try simp at this); omega
  have HBwa := Lib.hid hb
  have HNwa := Lib.hid hn
  have HN'wa := Lib.hid hn'
  clear hb hn hn'
  have HX := Lib.hid ((Bx.new w #[.bool false, .slice none 0 0, .slice none 0 0] 29).below HBwa.out)
  have HF := Lib.hid (fun v0 v1 v2 => fin3 hN (Nat.le_refl _) HX.out HNwa.out HN'wa.out ((bel1 w _).trans (HBwa.out.mono (by first | omega | (simp; done) | (simp; omega)))) v0 v1 v2)
  go_wp2_with fail
  exact bodyPost_ret (v := .tuple #[.agg #[.bool (decide ((p).num < 0)), .slice rx (nlen (p).num.natAbs) cx, .slice rx2 (nlen (p).den) cx2], .int .i64 20]) (by simp [results, Try.results23, go_sem, hcwa]) rfl ⟨_, _, _, _, rfl, (HF.out _ _ _).1, (HF.out _ _ _).2.1, (HF.out _ _ _).2.2⟩
  
set_option maxHeartbeats 2000000 in
theorem xrate_yes {N : Nat} (a : Option Addr) (n cap : Nat) (it ct : Nat → Int) (item served : Int) (w : World) (hN : N ≤ w.heap.size) (h : Us w a n cap it ct) (hs : 1 ≤ served) (x : Int) (hx : cntN it ct item n = x) (p : Rat) (hp : mkRat (zI (decide (x < 0) != decide (lim served < 0)) x.natAbs) (lim served).natAbs = p) :
    Calls Try.prog 23 #[.slice a n cap, .int .i64 item, .int .i64 served] w (RatPostE N w p 0) := by
  have H := Lib.hid (h.alloc (.cells #[.bool false, .slice none 0 0, .slice none 0 0] 29))
  have HC := Lib.hid hx
  have HP := Lib.hid hp
  obtain ⟨b0, b1⟩ := cntN_bd it ct item n
  rw [hx] at b0 b1
  obtain ⟨l0, l1⟩ := lim_bd served
  clear h hx hp
  go_enter Try.func23, Try.ntmps23
  go_wp2_with fail
  refine (xcount_any a n cap it ct item _ H.out).mono ?_
  rw [HC.out]
  rintro e w' ⟨rfl, rfl⟩
  go_wp2_with fail
  refine (xlimited_any _ _).mono ?_
  rintro e w' ⟨rfl, rfl⟩
  go_wp2_with fail
  refine (xrof_any (N := N) x (lim served) _ (by first | omega | (simp; omega)) (by omega) (by omega) (by omega) (by omega) p HP.out).mono ?_
  rintro e wb ⟨rx, cx, rx2, cx2, rfl, hn, hn', hb⟩
  obtain ⟨hcwb, hfwb⟩ := bcell hb
  have hzwb0 : w.heap.size < wb.heap.size := by have := hb.size; (try simp at this); omega
  have HBwb := Lib.hid hb
  have HNwb := Lib.hid hn
  have HN'wb := Lib.hid hn'
  clear hb hn hn'
  have HX := Lib.hid (((Bx.new w #[.bool false, .slice none 0 0, .slice none 0 0] 29)).below HBwb.out)
  have HF := Lib.hid (fun v0 v1 v2 => fin3 hN (Nat.le_refl _) HX.out HNwb.out HN'wb.out ((bel1 w _).trans (HBwb.out.mono (by first | omega | (simp; done) | (simp; omega)))) v0 v1 v2)
  go_wp2_with fail
  exact bodyPost_ret (v := .tuple #[.agg #[.bool (decide ((p).num < 0)), .slice rx (nlen (p).num.natAbs) cx, .slice rx2 (nlen (p).den) cx2], .int .i64 0]) (by simp [results, Try.results23, go_sem, hcwb, hzwb0]) rfl ⟨_, _, _, _, rfl, (HF.out _ _ _).1.alloc _, (HF.out _ _ _).2.1.alloc _, (HF.out _ _ _).2.2.trans ((bel1 _ _).mono (by simp; omega))⟩
  

set_option maxHeartbeats 2000000 in
theorem limbs37_any {N : Nat} (a b : Option Addr) (n ca cb m : Nat) (w : World) (ha : Nt N w a n ca m) (hb : Nt N w b n cb m) :
    Calls Try.prog 64 #[.slice a n ca, .slice b n cb] w fun e w' => e = .returned (.bool true) ∧ Below w.heap.size w w' := by
  have l3 : n ≤ 9223372036854775807 := by have := ha.1.1; have := ha.2.1; unfold maxLen at this; omega
  have HA := Lib.hid ha
  have HB := Lib.hid hb
  clear ha hb
  go_enter Try.func64, Try.ntmps64
  go_wp2_with fail
  go_loopw [5] (fun i wr => ∃ k : Nat, k ≤ n ∧ i = .int .i64 k ∧ Below w.heap.size w wr) (fun i _ => n - (intOf i).toNat)
  case atStart => exact ⟨0, Nat.zero_le _, rfl, Below.refl _ _⟩
  case round =>
    obtain ⟨k, hk, rfl, hbel⟩ := hrel
    by_cases hkn : k < n
    · obtain ⟨b1, o1, rfl, _, hc1⟩ := HA.out.2.2.2 (by omega)
      obtain ⟨b2, o2, rfl, _, hc2⟩ := HB.out.2.2.2 (by omega)
      have hcell1 := cell_mono' hbel (hc1 k hkn)
      have hcell2 := cell_mono' hbel (hc2 k hkn)
      have HBel := Lib.hid hbel
      clear hc1 hc2 hbel
      go_wp2_with fail
      go_quiet (fail)
      go_wp2_with fail
      go_roundw
      case rel => exact ⟨k + 1, by omega, by go_num, below_drewN HBel.out _⟩
      case measure => simp [intOf]; omega
    · obtain rfl : k = n := by omega
      have HBel := Lib.hid hbel
      clear hbel
      go_wp2_with fail
      go_ret
      exact ⟨rfl, HBel.out⟩

set_option maxHeartbeats 2000000 in
theorem same37_any {N : Nat} (s : Bool) (a a2 b b2 : Option Addr) (n1 m1 n2 m2 c c2 cb cb2 : Nat) (w : World) (h1 : Nt N w a n1 c m1) (h2 : Nt N w a2 n2 c2 m2) (g1 : Nt N w b n1 cb m1) (g2 : Nt N w b2 n2 cb2 m2) :
    Calls Try.prog 25 #[.agg #[.bool s, .slice a n1 c, .slice a2 n2 c2], .agg #[.bool s, .slice b n1 cb, .slice b2 n2 cb2]] w fun e w' => e = .returned (.bool true) ∧ Below w.heap.size w w' := by
  have Hh1 := Lib.hid ((h1.alloc (.cells #[.bool s, .slice a n1 c, .slice a2 n2 c2] 29)).alloc (.cells #[.bool s, .slice b n1 cb, .slice b2 n2 cb2] 29))
  have Hh2 := Lib.hid ((h2.alloc (.cells #[.bool s, .slice a n1 c, .slice a2 n2 c2] 29)).alloc (.cells #[.bool s, .slice b n1 cb, .slice b2 n2 cb2] 29))
  have Hg1 := Lib.hid ((g1.alloc (.cells #[.bool s, .slice a n1 c, .slice a2 n2 c2] 29)).alloc (.cells #[.bool s, .slice b n1 cb, .slice b2 n2 cb2] 29))
  have Hg2 := Lib.hid ((g2.alloc (.cells #[.bool s, .slice a n1 c, .slice a2 n2 c2] 29)).alloc (.cells #[.bool s, .slice b n1 cb, .slice b2 n2 cb2] 29))
  clear h1 h2 g1 g2
  go_enter Try.func25, Try.ntmps25
  go_wp2_with fail
  refine (limbs37_any (N := N) _ _ _ _ _ m1 _ Hh1.out Hg1.out).mono ?_
  rintro e wa ⟨rfl, hb⟩
  obtain ⟨hcwa, hfwa⟩ := bcell hb
  have hzwa0 : w.heap.size < wa.heap.size := by have := hb.size; (try simp at this); omega
  have hzwa1 : w.heap.size + 1 < wa.heap.size := by have := hb.size; (try simp at this); omega
  have HBwa := Lib.hid hb
  clear hb 
  go_wp2_with fail
  refine (limbs37_any (N := N) _ _ _ _ _ m2 _ (Hh2.out.below HBwa.out) (Hg2.out.below HBwa.out)).mono ?_
  rintro e wb ⟨rfl, hb⟩
  obtain ⟨hcwb, hfwb⟩ := bcell hb
  have hzwb0 : w.heap.size < wb.heap.size := by have := hb.size; (try simp at this); omega
  have hzwb1 : w.heap.size + 1 < wb.heap.size := by have := hb.size; (try simp at this); omega
  have HBwb := Lib.hid hb
  clear hb 
  go_wp2_with fail
  go_ret
  exact ⟨rfl, (((bel2 w _ _).trans (HBwa.out.mono (by first | omega | (simp; done) | (simp; omega)))).trans (HBwb.out.mono (by first | omega | (simp; done) | (simp; omega))))⟩

end Go.Proofs.Ytnidfpilmmhniaa
