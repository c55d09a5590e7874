/- Contracts of nat.DivMod and nat.Gcd: for all numbers of at most 2^40 limbs. -/
import Derived.Test.YtnillajhhimeiaaDoorNatK
import Derived.Test.YtnillajhhimeiaaDoorNatE
import Derived.Deep.LoopGhost
namespace Go.Proofs.YtnillajhhimeiaaDoor
open Go.RowKit

set_option maxHeartbeats 1000000 in
theorem divMod_zero {N : Nat} (a b : Option Addr) (na ca ma nb cb : Nat) (w : World) (ha : Nt N w a na ca ma) (hb : Nt N w b nb cb 0) :
    Calls Tryd.prog 77 #[.slice a na ca, .slice b nb cb] w fun e w' => e = .returned (.tuple #[.slice none 0 0, .slice none 0 0, .bool false]) ∧ w = w' := by
  have HA := Lib.hid ha
  have HB := Lib.hid hb
  clear ha hb
  have HZ := Lib.hid nlen_zero
  go_enter Tryd.func77, Tryd.ntmps77
  go_wp2_with fail
  refine (trim_any _ _ _ _ _ HA.out).mono ?_
  rintro e w' ⟨rfl, rfl⟩
  go_wp2_with fail
  refine (trim_any _ _ _ _ _ HB.out).mono ?_
  rintro e w' ⟨rfl, rfl⟩
  rw [HZ.out]
  go_wp2_with fail
  go_ret3
  exact ⟨rfl, rfl⟩

set_option maxHeartbeats 2000000 in
theorem divMod_any {N : Nat} (a b : Option Addr) (na ca ma nb cb mb : Nat) (w : World) (hN : N ≤ w.heap.size) (ha : Nt N w a na ca ma) (hb : Nt N w b nb cb mb) (la : na ≤ 1099511627776) (hb0 : 0 < mb) :
    Calls Tryd.prog 77 #[.slice a na ca, .slice b nb cb] w fun e w' => ∃ r cr r2 cr2, e = .returned (.tuple #[.slice r (nlen (ma / mb)) cr, .slice r2 (nlen (ma % mb)) cr2, .bool true]) ∧ Nt N w' r (nlen (ma / mb)) cr (ma / mb) ∧ Nt N w' r2 (nlen (ma % mb)) cr2 (ma % mb) ∧ Below w.heap.size w w' := by
  have l1 := ha.len
  have hnb : nlen mb ≠ 0 := fun h => by rw [nlen_eq_zero] at h; omega
  have hz : ((nlen mb : Int) == 0) = false := by simp; omega
  have HA := Lib.hid ha
  have HB := Lib.hid hb
  have HTA := Lib.hid ha.trim
  have HTB := Lib.hid hb.trim
  clear ha hb hnb
  rcases Nat.lt_or_ge ma mb with hlt | hge
  · have hcmp : cmpN ma mb < 0 := by rw [cmpN_lt hlt]; decide
    have hcmp2 : (decide (cmpN ma mb < 0)) = true := by simpa using hcmp
    have HQ := Lib.hid (Nat.div_eq_of_lt hlt)
    have HR := Lib.hid (Nat.mod_eq_of_lt hlt)
    have HZ := Lib.hid nlen_zero
    go_enter Tryd.func77, Tryd.ntmps77
    go_wp2_with fail
    refine (trim_any _ _ _ _ _ HA.out).mono ?_
    rintro e w' ⟨rfl, rfl⟩
    go_wp2_with fail
    refine (trim_any _ _ _ _ _ HB.out).mono ?_
    rintro e w' ⟨rfl, rfl⟩
    go_wp2_with fail
    refine (cmp_any _ _ _ _ _ _ _ _ _ HTA.out HTB.out).mono ?_
    rintro e w' ⟨rfl, q0, rfl⟩
    go_wp2_with fail
    refine (norm_any (N := N) _ _ _ ma _ (HTA.out.below (bel_drewN _ _ _)) (by omega)).mono ?_
    rintro e w' ⟨r, cr, rfl, hn, hbel⟩
    have HN := Lib.hid hn
    have HBel := Lib.hid hbel
    clear hn hbel
    go_wp2_with fail
    go_ret3
    rw [HQ.out, HR.out, HZ.out]
    exact ⟨none, 0, _, _, rfl, ⟨⟨Nat.le_refl _, fun _ => rfl⟩, Nat.zero_le _, pB 0, fun h => by omega⟩, HN.out, bel_of_drewN HBel.out⟩
  · have hcmp : ¬ cmpN ma mb < 0 := by unfold cmpN; rw [if_neg (by omega)]; split <;> omega
    have hcmp2 : (decide (cmpN ma mb < 0)) = false := by simpa using hcmp
    have hge2 : nlen mb ≤ nlen ma := nlen_mono hge
    by_cases h1 : nlen mb = 1
    · have h1b : ((nlen mb : Int) == 1) = true := by simp; omega
      have hd := dig_lt' mb 0
      have hmb : dig mb 0 = mb := by
        have := lt_pow_nlen mb
        rw [h1, Nat.pow_one] at this
        unfold dig; rw [Nat.pow_zero, Nat.div_one]; exact Nat.mod_eq_of_lt this
      obtain ⟨b1, o1, rfl, _, hcb⟩ := HTB.out.2.2.2 (by omega)
      have hcell := hcb 0 (by omega)
      rw [Nat.add_zero, hmb] at hcell
      rw [hmb] at hd
      have hpos : (0 : Int) < (nlen mb : Int) := by omega
      clear hcb hmb h1
      have hml := Nat.mod_lt ma hb0
      have Hml := Lib.hid hml
      clear hml
      have hml2 : ma % mb < 4294967296 := by have := Hml.out; omega
      generalize hmm : ma % mb = rr at *
      go_enter Tryd.func77, Tryd.ntmps77
      go_wp2_with fail
      refine (trim_any _ _ _ _ _ HA.out).mono ?_
      rintro e w' ⟨rfl, rfl⟩
      go_wp2_with fail
      refine (trim_any _ _ _ _ _ HB.out).mono ?_
      rintro e w' ⟨rfl, rfl⟩
      go_wp2_with fail
      refine (cmp_any _ _ _ _ _ _ _ _ _ HTA.out HTB.out).mono ?_
      rintro e w' ⟨rfl, q0, rfl⟩
      go_wp2_with fail
      refine (divLimb_any (N := N) _ _ _ ma mb _ (HTA.out.below (bel_drewN _ _ _)) (by omega) hb0 (by omega)).mono ?_
      rw [hmm]
      rintro e w' ⟨r, cr, rfl, hn, hbel⟩
      have HN := Lib.hid hn
      have HBel := Lib.hid hbel
      clear hn hbel hmm
      go_wp2_with fail
      refine (of_any (N := N) rr _ (by omega)).mono ?_
      rintro e w'' ⟨r2, cr2, rfl, hn, hbel⟩
      have HN2 := Lib.hid hn
      have HBel2 := Lib.hid hbel
      clear hn hbel
      go_wp2_with fail
      go_ret3
      exact ⟨_, _, _, _, rfl, HN.out.below HBel2.out, HN2.out, (bel_of_drewN HBel.out).trans (HBel2.out.mono HBel.out.size)⟩
    · have h1b : ((nlen mb : Int) == 1) = false := by simp; omega
      have h2 : 2 ≤ nlen mb := by
        have : nlen mb ≠ 0 := fun h => by rw [nlen_eq_zero] at h; omega
        omega
      clear h1
      go_enter Tryd.func77, Tryd.ntmps77
      go_wp2_with fail
      refine (trim_any _ _ _ _ _ HA.out).mono ?_
      rintro e w' ⟨rfl, rfl⟩
      go_wp2_with fail
      refine (trim_any _ _ _ _ _ HB.out).mono ?_
      rintro e w' ⟨rfl, rfl⟩
      go_wp2_with fail
      refine (cmp_any _ _ _ _ _ _ _ _ _ HTA.out HTB.out).mono ?_
      rintro e w' ⟨rfl, q0, rfl⟩
      go_wp2_with fail
      refine (divLong_any (N := N) _ _ _ ma _ mb _ (by exact hN) (HTA.out.below (bel_drewN _ _ _)) (HTB.out.below (bel_drewN _ _ _)) (by omega) h2 hge2).mono ?_
      rintro e w' ⟨r, cr, r2, cr2, rfl, hn, hn2, hbel⟩
      have HN := Lib.hid hn
      have HN2 := Lib.hid hn2
      have HBel := Lib.hid hbel
      clear hn hn2 hbel
      go_wp2_with fail
      go_ret3
      exact ⟨_, _, _, _, rfl, HN.out, HN2.out, bel_of_drewN HBel.out⟩


def GcdRel (N : Nat) (w : World) (ma mb y : Nat) (s0 s1 : Value) (wr : World) : Prop :=
  ∃ x ra ca rb cb, s0 = .slice ra (nlen x) ca ∧ s1 = .slice rb (nlen y) cb ∧ Nt N wr ra (nlen x) ca x ∧ Nt N wr rb (nlen y) cb y ∧ Nat.gcd x y = Nat.gcd ma mb ∧ nlen x ≤ 1099511627776 ∧ nlen y ≤ 1099511627776 ∧ Below w.heap.size w wr

set_option maxHeartbeats 2000000 in
theorem gcd_any {N : Nat} (a b : Option Addr) (na ca ma nb cb mb : Nat) (w : World) (hN : N ≤ w.heap.size) (ha : Nt N w a na ca ma) (hb : Nt N w b nb cb mb) (la : na ≤ 1099511627776) (lb : nb ≤ 1099511627776) :
    Calls Tryd.prog 76 #[.slice a na ca, .slice b nb cb] w fun e w' => ∃ r cr, e = .returned (.slice r (nlen (Nat.gcd ma mb)) cr) ∧ Nt N w' r (nlen (Nat.gcd ma mb)) cr (Nat.gcd ma mb) ∧ Below w.heap.size w w' := by
  have l1 := ha.len
  have l2 := hb.len
  have HA := Lib.hid ha
  have HB := Lib.hid hb
  clear ha hb
  go_enter Tryd.func76, Tryd.ntmps76
  go_wp2_with fail
  refine (norm_any (N := N) _ _ _ ma _ HA.out (by omega)).mono ?_
  rintro e w1 ⟨r1, c1, rfl, hn1, hb1⟩
  have HN1 := Lib.hid hn1
  have HB1 := Lib.hid hb1
  clear hn1 hb1
  go_wp2_with fail
  refine (norm_any (N := N) _ _ _ mb _ (HB.out.below HB1.out) (by omega)).mono ?_
  rintro e w2 ⟨r2, c2, rfl, hn2, hb2⟩
  have HN2 := Lib.hid hn2
  have HB2 := Lib.hid hb2
  clear hn2 hb2
  go_wp2_with fail
  go_loopg [0, 1] mb (fun y s0 s1 wr => GcdRel N w ma mb y s0 s1 wr)
  case atStart => exact ⟨ma, _, _, _, _, rfl, rfl, HN1.out.below HB2.out, HN2.out, rfl, by omega, by omega, HB1.out.trans (HB2.out.mono HB1.out.size)⟩
  case round =>
    obtain ⟨x, ra, ca', rb, cb', rfl, rfl, hx, hy, hg, hlx, hly, hbel⟩ := hrel
    have HX := Lib.hid hx
    have HY := Lib.hid hy
    have HG := Lib.hid hg
    have HBel := Lib.hid hbel
    clear hx hy hg hbel
    by_cases hy0 : gk = 0
    · have HZ := Lib.hid (show nlen gk = 0 by rw [nlen_eq_zero]; exact hy0)
      have HE : Hid (x = Nat.gcd ma mb) := by have := HG.out; rw [hy0, Nat.gcd_zero_right] at this; exact this
      clear hy0
      have hz : ¬ (0 : Int) < (nlen gk : Int) := by have := HZ.out; omega
      go_wp2_with fail
      go_ret
      rw [← HE.out]
      exact ⟨_, _, rfl, HX.out, HBel.out⟩
    · have hpos : 0 < nlen gk := by
        have : nlen gk ≠ 0 := fun h => hy0 (nlen_eq_zero.1 h)
        omega
      have hgk : 0 < gk := by omega
      clear hy0
      go_wp2_with fail
      refine (divMod_any (N := N) _ _ _ _ x _ _ gk _ (by have := HBel.out.size; omega) HX.out HY.out hlx hgk).mono ?_
      rintro e w3 ⟨r3, c3, r4, c4, rfl, hn3, hn4, hb3⟩
      have HN4 := Lib.hid hn4
      have HB3 := Lib.hid hb3
      clear hn3 hn4 hb3
      go_wp2_with fail
      go_roundg (x % gk)
      case measure => exact Nat.mod_lt _ hgk
      case rel => exact ⟨gk, _, _, _, _, rfl, rfl, HY.out.below HB3.out, HN4.out, by rw [Nat.gcd_comm, ← Nat.gcd_rec, Nat.gcd_comm]; exact HG.out, hly, Nat.le_trans (nlen_mono (Nat.le_of_lt (Nat.mod_lt _ hgk))) hly, HBel.out.trans (HB3.out.mono HBel.out.size)⟩

end Go.Proofs.YtnillajhhimeiaaDoor
