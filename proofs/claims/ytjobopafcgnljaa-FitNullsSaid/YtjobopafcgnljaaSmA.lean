import Derived.Test.YtjobopafcgnljaaFtN
namespace Go.Proofs.Ytjobopafcgnljaa
open Go.RowKit
set_option maxHeartbeats 2000000 in
theorem limbs31_any {N : Nat} (a b : Option Addr) (n ca cb m : Nat) (w : World) (ha : Nt N w a n ca m) (hb : Nt N w b n cb m) :
  Calls Try.prog 28 #[.slice a n ca, .slice b n cb] w fun e w' => e = .returned (.bool true) ∧ Below w.heap.size w w' := by
 have l3 : n ≤ 9223372036854775807 := by have := ha.1.1; have := ha.2.1; unfold maxLen at this; omega
 have HA := Lib.hid ha
 have HB := Lib.hid hb
 clear ha hb
 go_enter Try.func28, Try.ntmps28
 go_wp2_with fail
 go_loopw [5] (fun i wr => ∃ k : Nat, k ≤ n ∧ i = .int .i64 k ∧ Below w.heap.size w wr) (fun i _ => n - (intOf i).toNat)
 case atStart => exact ⟨0, Nat.zero_le _, rfl, Below.refl _ _⟩
 case round =>
  obtain ⟨k, hk, rfl, hbel⟩ := hrel
  by_cases hkn : k < n
  ·obtain ⟨b1, o1, rfl, _, hc1⟩ := HA.out.2.2.2 (by omega)
   obtain ⟨b2, o2, rfl, _, hc2⟩ := HB.out.2.2.2 (by omega)
   have hcell1 := cell_mono (hc1 k hkn) hbel
   have hcell2 := cell_mono (hc2 k hkn) hbel
   have HBel := Lib.hid hbel
   clear hc1 hc2 hbel
   go_wp2_with fail
   go_quiet (fail)
   go_wp2_with fail
   go_roundw
   case rel => exact ⟨k + 1, by omega, by go_num, below_drewN HBel.out _⟩
   case measure => simp [intOf]; omega
  ·obtain rfl : k = n := by omega
   have HBel := Lib.hid hbel
   clear hbel
   go_wp2_with fail
   go_ret
   exact ⟨rfl, HBel.out⟩
set_option maxHeartbeats 2000000 in
theorem same31_any {N : Nat} (s : Bool) (a a2 b b2 : Option Addr) (n1 m1 n2 m2 c c2 cb cb2 : Nat) (w : World) (h1 : Nt N w a n1 c m1) (h2 : Nt N w a2 n2 c2 m2) (g1 : Nt N w b n1 cb m1) (g2 : Nt N w b2 n2 cb2 m2) :
  Calls Try.prog 9 #[.agg #[.bool s, .slice a n1 c, .slice a2 n2 c2], .agg #[.bool s, .slice b n1 cb, .slice b2 n2 cb2]] w fun e w' => e = .returned (.bool true) ∧ Below w.heap.size w w' := by
 have Hh1 := Lib.hid ((h1.alloc (.cells #[.bool s, .slice a n1 c, .slice a2 n2 c2] 30)).alloc (.cells #[.bool s, .slice b n1 cb, .slice b2 n2 cb2] 30))
 have Hh2 := Lib.hid ((h2.alloc (.cells #[.bool s, .slice a n1 c, .slice a2 n2 c2] 30)).alloc (.cells #[.bool s, .slice b n1 cb, .slice b2 n2 cb2] 30))
 have Hg1 := Lib.hid ((g1.alloc (.cells #[.bool s, .slice a n1 c, .slice a2 n2 c2] 30)).alloc (.cells #[.bool s, .slice b n1 cb, .slice b2 n2 cb2] 30))
 have Hg2 := Lib.hid ((g2.alloc (.cells #[.bool s, .slice a n1 c, .slice a2 n2 c2] 30)).alloc (.cells #[.bool s, .slice b n1 cb, .slice b2 n2 cb2] 30))
 clear h1 h2 g1 g2
 go_enter Try.func9, Try.ntmps9
 go_wp2_with fail
 refine (limbs31_any (N := N) _ _ _ _ _ m1 _ Hh1.out Hg1.out).mono ?_
 rintro e wa ⟨rfl, hb⟩
 obtain ⟨hcwa, hfwa⟩ := bcell hb
 have hzwa0 : w.heap.size < wa.heap.size := by have := hb.size; (try simp at this); omega
 have hzwa1 : w.heap.size + 1 < wa.heap.size := by have := hb.size; (try simp at this); omega
 have HBwa := Lib.hid hb
 clear hb
 go_wp2_with fail
 refine (limbs31_any (N := N) _ _ _ _ _ m2 _ (Hh2.out.below HBwa.out) (Hg2.out.below HBwa.out)).mono ?_
 rintro e wb ⟨rfl, hb⟩
 obtain ⟨hcwb, hfwb⟩ := bcell hb
 have hzwb0 : w.heap.size < wb.heap.size := by have := hb.size; (try simp at this); omega
 have hzwb1 : w.heap.size + 1 < wb.heap.size := by have := hb.size; (try simp at this); omega
 have HBwb := Lib.hid hb
 clear hb
 go_wp2_with fail
 go_ret
 exact ⟨rfl, (((bel2 w _ _).trans (HBwa.out.mono (by first | omega | (simp; done) | (simp; omega)))).trans (HBwb.out.mono (by first | omega | (simp; done) | (simp; omega))))⟩
def HvPost (w : World) (n : Nat) (ln ld : Nat → Nat) (e : Ending) (w' : World) : Prop := ∃ b, e = .returned (.bool b) ∧ w = w' ∧ (b = false → n ≤ 20 → n ≤ 8 ∧ ∀ j, j < n → ln j ≤ 2 ∧ ld j ≤ 2)
set_option maxHeartbeats 4000000 in
theorem heavy_any {N : Nat} (a : Option Addr) (n cap : Nat) (q : Nat → Rat) (ln ld : Nat → Nat) (w : World) (h : Ru N w a n cap q ln ld) :
  Calls Try.prog 6 #[.slice a n cap] w (HvPost w n ln ld) := by
 have HU := Lib.hid h
 have bc := h.1
 have bm := h.2.1
 unfold maxLen at bm
 clear h
 by_cases h20 : 20 < n
 ·go_enter Try.func6, Try.ntmps6
  go_wp2_with fail
  go_ret
  exact ⟨_, rfl, rfl, fun _ h => by omega⟩
 ·go_enter Try.func6, Try.ntmps6
  go_wp2_with fail
  go_loop [3] (fun i => ∃ k : Nat, k ≤ n ∧ i = .int .i64 k ∧ Hid (∀ j, j < k → ln j ≤ 2 ∧ ld j ≤ 2)) (fun i => n - (intOf i).toNat)
  case atStart => exact ⟨0, Nat.zero_le _, rfl, Lib.hid (fun j hj => by omega)⟩
  case round =>
   obtain ⟨k, hk, rfl, hin⟩ := hrel
   by_cases hkn : k < n
   ·obtain ⟨b, off, rfl, ho⟩ := HU.out.2.2 (by omega)
    obtain ⟨sk, ra, rc, da, dc, mn, md, g0, g1, g2, _, _, _⟩ := ho k hkn
    obtain ⟨l1, hl1⟩ : ∃ l, ln k = l := ⟨_, rfl⟩
    obtain ⟨l2, hl2⟩ : ∃ l, ld k = l := ⟨_, rfl⟩
    rw [hl1] at g1
    rw [hl2] at g2
    have HL1 := Lib.hid hl1
    have HL2 := Lib.hid hl2
    clear ho hl1 hl2
    by_cases h1 : 2 < l1
    ·go_wp2_with fail
     go_ret
     exact ⟨_, rfl, rfl, fun h => by cases h⟩
    ·by_cases h2 : 2 < l2
     ·go_wp2_with fail
      go_ret
      exact ⟨_, rfl, rfl, fun h => by cases h⟩
     ·go_wp2_with fail
      go_round
      case rel => exact ⟨k + 1, by omega, by go_num, Lib.hid (fun j hj => by by_cases e : j = k; (· subst e; rw [HL1.out, HL2.out]; omega); (· exact hin.out j (by omega)))⟩
      case measure => simp [intOf]; omega
   ·obtain rfl : n = k := by omega
    go_wp2_with fail
    go_ret
    exact ⟨_, rfl, rfl, fun h _ => ⟨by have := of_decide_eq_false h; omega, hin.out⟩⟩
end Go.Proofs.Ytjobopafcgnljaa
