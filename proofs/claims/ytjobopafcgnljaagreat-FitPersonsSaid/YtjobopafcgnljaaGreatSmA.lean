import Derived.Test.YtjobopafcgnljaaGreatFtN
namespace Go.Proofs.YtjobopafcgnljaaGreat
open Go.RowKit
set_option maxHeartbeats 2000000 in
theorem limbs31_any {N : Nat} (a b : Option Addr) (n ca cb m : Nat) (w : World) (ha : Nt N w a n ca m) (hb : Nt N w b n cb m) :
  Calls Tryz.prog 17 #[.slice a n ca, .slice b n cb] w fun e w' => e = .returned (.bool true) ∧ Below w.heap.size w w' := by
 have l3 : n ≤ 9223372036854775807 := by have := ha.1.1; have := ha.2.1; unfold maxLen at this; omega
 have HA := Lib.hid ha
 have HB := Lib.hid hb
 clear ha hb
 go_enter Tryz.func17, Tryz.ntmps17
 go_wp2_with fail
 go_loopw [5] (fun i wr => ∃ k : Nat, k ≤ n ∧ i = .int .i64 k ∧ Below w.heap.size w wr) (fun i _ => n - (intOf i).toNat)
 case atStart => exact ⟨0, Nat.zero_le _, rfl, Below.refl _ _⟩
 case round =>
  obtain ⟨k, hk, rfl, hbel⟩ := hrel
  by_cases hkn : k < n
  ·obtain ⟨b1, o1, rfl, _, hc1⟩ := HA.out.2.2.2 (by omega)
   obtain ⟨b2, o2, rfl, _, hc2⟩ := HB.out.2.2.2 (by omega)
   have hcell1 := cell_mono (hc1 k hkn) hbel
   have hcell2 := cell_mono (hc2 k hkn) hbel
   have HBel := Lib.hid hbel
   clear hc1 hc2 hbel
   go_wp2_with fail
   go_quiet (fail)
   go_wp2_with fail
   go_roundw
   case rel => exact ⟨k + 1, by omega, by go_num, below_drewN HBel.out _⟩
   case measure => simp [intOf]; omega
  ·obtain rfl : k = n := by omega
   have HBel := Lib.hid hbel
   clear hbel
   go_wp2_with fail
   go_ret
   exact ⟨rfl, HBel.out⟩
set_option maxHeartbeats 2000000 in
theorem same31_any {N : Nat} (s : Bool) (a a2 b b2 : Option Addr) (n1 m1 n2 m2 c c2 cb cb2 : Nat) (w : World) (h1 : Nt N w a n1 c m1) (h2 : Nt N w a2 n2 c2 m2) (g1 : Nt N w b n1 cb m1) (g2 : Nt N w b2 n2 cb2 m2) :
  Calls Tryz.prog 6 #[.agg #[.bool s, .slice a n1 c, .slice a2 n2 c2], .agg #[.bool s, .slice b n1 cb, .slice b2 n2 cb2]] w fun e w' => e = .returned (.bool true) ∧ Below w.heap.size w w' := by
 have Hh1 := Lib.hid ((h1.alloc (.cells #[.bool s, .slice a n1 c, .slice a2 n2 c2] 29)).alloc (.cells #[.bool s, .slice b n1 cb, .slice b2 n2 cb2] 29))
 have Hh2 := Lib.hid ((h2.alloc (.cells #[.bool s, .slice a n1 c, .slice a2 n2 c2] 29)).alloc (.cells #[.bool s, .slice b n1 cb, .slice b2 n2 cb2] 29))
 have Hg1 := Lib.hid ((g1.alloc (.cells #[.bool s, .slice a n1 c, .slice a2 n2 c2] 29)).alloc (.cells #[.bool s, .slice b n1 cb, .slice b2 n2 cb2] 29))
 have Hg2 := Lib.hid ((g2.alloc (.cells #[.bool s, .slice a n1 c, .slice a2 n2 c2] 29)).alloc (.cells #[.bool s, .slice b n1 cb, .slice b2 n2 cb2] 29))
 clear h1 h2 g1 g2
 go_enter Tryz.func6, Tryz.ntmps6
 go_wp2_with fail
 refine (limbs31_any (N := N) _ _ _ _ _ m1 _ Hh1.out Hg1.out).mono ?_
 rintro e wa ⟨rfl, hb⟩
 obtain ⟨hcwa, hfwa⟩ := bcell hb
 have hzwa0 : w.heap.size < wa.heap.size := by have := hb.size; (try simp at this); omega
 have hzwa1 : w.heap.size + 1 < wa.heap.size := by have := hb.size; (try simp at this); omega
 have HBwa := Lib.hid hb
 clear hb
 go_wp2_with fail
 refine (limbs31_any (N := N) _ _ _ _ _ m2 _ (Hh2.out.below HBwa.out) (Hg2.out.below HBwa.out)).mono ?_
 rintro e wb ⟨rfl, hb⟩
 obtain ⟨hcwb, hfwb⟩ := bcell hb
 have hzwb0 : w.heap.size < wb.heap.size := by have := hb.size; (try simp at this); omega
 have hzwb1 : w.heap.size + 1 < wb.heap.size := by have := hb.size; (try simp at this); omega
 have HBwb := Lib.hid hb
 clear hb
 go_wp2_with fail
 go_ret
 exact ⟨rfl, (((bel2 w _ _).trans (HBwa.out.mono (by first | omega | (simp; done) | (simp; omega)))).trans (HBwb.out.mono (by first | omega | (simp; done) | (simp; omega))))⟩
end Go.Proofs.YtjobopafcgnljaaGreat
