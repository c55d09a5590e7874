/- ExactSums returns true for every input of bulk at most 1048576, the three tables lying as the program's text lays them (tied). ExactSums and ExactTrials return true for every input whose numbers have at most 2^20 limbs together (the walks). -/
import Derived.Test.YtbjgnpgachdlaaaGreatDoorRfE
import Derived.Test.YtbjgnpgachdlaaaGreatDoorExU
import Derived.Test.YtbjgnpgachdlaaaGreatDoorFrR
import Derived.Test.YtbjgnpgachdlaaaGreatDoorCards
import Derived.Test.YtbjgnpgachdlaaaGreatDoorTie
import Derived.ProofKit
import Derived.LaidMore
import Derived.OpenShut
import Derived.Stop.Joined
import Derived.Lib.LaidTab
import Derived.SevenTiedAt
import Derived.Deep.DeepHandedRow
namespace Go.Proofs.YtbjgnpgachdlaaaGreatDoor
open Go.RowKit

set_option maxHeartbeats 2000000 in
theorem sums_bad {N : Nat} (a b : Option Addr) (n ca m cb : Nat) (x y : Nat → Rat) (L : Nat) (w : World) (hN : N ≤ w.heap.size) (h : Rs N w a n ca x L) (h' : Rs N w b m cb y L) (hL : L ≤ 2097152) (htab : TabW w) (hv : valid x n = false ∨ valid y m = false) : Calls Tryz.prog 6 #[.slice a n ca, .slice b m cb] w fun e w' => e = .returned (.bool true) ∧ Below w.heap.size w w' := by
  have HV := Lib.hid hv
  clear hv
  have hN0 := hN
  have HT := Lib.hid htab
  have HA := Lib.hid h
  have HC := Lib.hid h'
  clear htab h h'
  have HB := Lib.hid (Below.refl w.heap.size w)
  go_enter Tryz.func6, Tryz.ntmps6
  go_wp2_with fail
  refine calls_name fun W0 hW => ?_
  have hs_W0 : w.heap.size ≤ W0.heap.size := by rw [← hW]; (first | omega | (simp; done) | (simp; omega))
  have HL_W0 := Lib.hid (show Below w.heap.size w W0 by rw [← hW]; exact BlA)
  replace HB := Lib.hid (show Below w.heap.size w W0 by rw [← hW]; exact BlA)
  replace hN : N ≤ W0.heap.size := by rw [← hW]; (first | omega | (simp; done) | (simp; omega))
  have hs0 : w.heap.size ≤ W0.heap.size := by rw [← hW]; (first | omega | (simp; done) | (simp; omega))
  replace HT := Lib.hid (HT.out.below HL_W0.out)
  replace HA := Lib.hid (HA.out.below HL_W0.out)
  replace HC := Lib.hid (HC.out.below HL_W0.out)
  clear HL_W0
  clear hW
  refine (Convolve_bad (N := N) _ _ _ _ _ _ x y L _ hN HA.out HC.out hL HV.out).mono ?_
  rintro e wa ⟨rfl, hb⟩
  have hs_wa : W0.heap.size ≤ wa.heap.size := hb.size
  replace HB := Lib.hid (HB.out.trans (hb.mono hs0))
  replace hN : N ≤ wa.heap.size := Nat.le_trans hN hb.size
  replace hs0 : w.heap.size ≤ wa.heap.size := Nat.le_trans hs0 hb.size
  replace HT := Lib.hid (HT.out.below hb)
  replace HA := Lib.hid (HA.out.below hb)
  replace HC := Lib.hid (HC.out.below hb)
  clear hb
  go_wp2_with fail
  refine calls_name fun W1 hW => ?_
  have hs_W1 : wa.heap.size ≤ W1.heap.size := by rw [← hW]; (first | omega | (simp; done) | (simp; omega))
  have HL_W1 := Lib.hid (show Below wa.heap.size wa W1 by rw [← hW]; exact BlA)
  replace HB := Lib.hid (show Below w.heap.size w W1 by rw [← hW]; exact BlA)
  replace hN : N ≤ W1.heap.size := by rw [← hW]; (first | omega | (simp; done) | (simp; omega))
  replace hs0 : w.heap.size ≤ W1.heap.size := by rw [← hW]; (first | omega | (simp; done) | (simp; omega))
  replace HT := Lib.hid (HT.out.below HL_W1.out)
  replace HA := Lib.hid (HA.out.below HL_W1.out)
  replace HC := Lib.hid (HC.out.below HL_W1.out)
  clear HL_W1
  clear hW
  refine (xConvolve_bad (N := N) _ _ _ _ _ _ x y L _ hN HA.out HC.out hL HV.out).mono ?_
  rintro e wb ⟨rfl, hb⟩
  have hs_wb : W1.heap.size ≤ wb.heap.size := hb.size
  replace HB := Lib.hid (HB.out.trans (hb.mono hs0))
  replace hN : N ≤ wb.heap.size := Nat.le_trans hN hb.size
  replace hs0 : w.heap.size ≤ wb.heap.size := Nat.le_trans hs0 hb.size
  replace HT := Lib.hid (HT.out.below hb)
  replace HA := Lib.hid (HA.out.below hb)
  replace HC := Lib.hid (HC.out.below hb)
  clear hb
  go_wp2_with fail
  refine calls_name fun W2 hW => ?_
  have hs_W2 : wb.heap.size ≤ W2.heap.size := by rw [← hW]; (first | omega | (simp; done) | (simp; omega))
  have HL_W2 := Lib.hid (show Below wb.heap.size wb W2 by rw [← hW]; exact BlA)
  replace HB := Lib.hid (show Below w.heap.size w W2 by rw [← hW]; exact BlA)
  replace hN : N ≤ W2.heap.size := by rw [← hW]; (first | omega | (simp; done) | (simp; omega))
  replace hs0 : w.heap.size ≤ W2.heap.size := by rw [← hW]; (first | omega | (simp; done) | (simp; omega))
  replace HT := Lib.hid (HT.out.below HL_W2.out)
  replace HA := Lib.hid (HA.out.below HL_W2.out)
  replace HC := Lib.hid (HC.out.below HL_W2.out)
  clear HL_W2
  clear hW
  refine (SameList_nil _).mono ?_
  rintro e wc ⟨rfl, hb⟩
  have hs_wc : W2.heap.size ≤ wc.heap.size := hb.size
  replace HB := Lib.hid (HB.out.trans (hb.mono hs0))
  replace hN : N ≤ wc.heap.size := Nat.le_trans hN hb.size
  replace hs0 : w.heap.size ≤ wc.heap.size := Nat.le_trans hs0 hb.size
  replace HT := Lib.hid (HT.out.below hb)
  replace HA := Lib.hid (HA.out.below hb)
  replace HC := Lib.hid (HC.out.below hb)
  clear hb
  go_wp2_with fail
  refine calls_name fun W3 hW => ?_
  have hs_W3 : wc.heap.size ≤ W3.heap.size := by rw [← hW]; (first | omega | (simp; done) | (simp; omega))
  have HL_W3 := Lib.hid (show Below wc.heap.size wc W3 by rw [← hW]; exact BlA)
  replace HB := Lib.hid (show Below w.heap.size w W3 by rw [← hW]; exact BlA)
  replace hN : N ≤ W3.heap.size := by rw [← hW]; (first | omega | (simp; done) | (simp; omega))
  replace hs0 : w.heap.size ≤ W3.heap.size := by rw [← hW]; (first | omega | (simp; done) | (simp; omega))
  replace HT := Lib.hid (HT.out.below HL_W3.out)
  replace HA := Lib.hid (HA.out.below HL_W3.out)
  replace HC := Lib.hid (HC.out.below HL_W3.out)
  clear HL_W3
  clear hW
  refine (awake_any (N := N) _ hN HT.out).mono ?_
  rintro e wd ⟨rfl, hb⟩
  have hs_wd : W3.heap.size ≤ wd.heap.size := hb.size
  replace HB := Lib.hid (HB.out.trans (hb.mono hs0))
  replace hN : N ≤ wd.heap.size := Nat.le_trans hN hb.size
  replace hs0 : w.heap.size ≤ wd.heap.size := Nat.le_trans hs0 hb.size
  replace HT := Lib.hid (HT.out.below hb)
  replace HA := Lib.hid (HA.out.below hb)
  replace HC := Lib.hid (HC.out.below hb)
  clear hb
  go_wp2_with fail
  go_ret
  exact ⟨rfl, HB.out⟩

set_option maxHeartbeats 2000000 in
theorem sums_long {N : Nat} (a b : Option Addr) (n ca m cb : Nat) (x y : Nat → Rat) (L : Nat) (w : World) (hN : N ≤ w.heap.size) (h : Rs N w a n ca x L) (h' : Rs N w b m cb y L) (hL : L ≤ 2097152) (htab : TabW w) (hvx : valid x n = true) (hvy : valid y m = true) (hlong : 122 < n + m) : Calls Tryz.prog 6 #[.slice a n ca, .slice b m cb] w fun e w' => e = .returned (.bool true) ∧ Below w.heap.size w w' := by
  have HV1 := Lib.hid hvx
  have HV2 := Lib.hid hvy
  clear hvx hvy
  have hN0 := hN
  have HT := Lib.hid htab
  have HA := Lib.hid h
  have HC := Lib.hid h'
  clear htab h h'
  have HB := Lib.hid (Below.refl w.heap.size w)
  go_enter Tryz.func6, Tryz.ntmps6
  go_wp2_with fail
  refine calls_name fun W0 hW => ?_
  have hs_W0 : w.heap.size ≤ W0.heap.size := by rw [← hW]; (first | omega | (simp; done) | (simp; omega))
  have HL_W0 := Lib.hid (show Below w.heap.size w W0 by rw [← hW]; exact BlA)
  replace HB := Lib.hid (show Below w.heap.size w W0 by rw [← hW]; exact BlA)
  replace hN : N ≤ W0.heap.size := by rw [← hW]; (first | omega | (simp; done) | (simp; omega))
  have hs0 : w.heap.size ≤ W0.heap.size := by rw [← hW]; (first | omega | (simp; done) | (simp; omega))
  replace HT := Lib.hid (HT.out.below HL_W0.out)
  replace HA := Lib.hid (HA.out.below HL_W0.out)
  replace HC := Lib.hid (HC.out.below HL_W0.out)
  clear HL_W0
  clear hW
  refine (Convolve_long (N := N) _ _ _ _ _ _ x y L _ hN HA.out HC.out hL HV1.out HV2.out hlong).mono ?_
  rintro e wa ⟨rfl, hb⟩
  have hs_wa : W0.heap.size ≤ wa.heap.size := hb.size
  replace HB := Lib.hid (HB.out.trans (hb.mono hs0))
  replace hN : N ≤ wa.heap.size := Nat.le_trans hN hb.size
  replace hs0 : w.heap.size ≤ wa.heap.size := Nat.le_trans hs0 hb.size
  replace HT := Lib.hid (HT.out.below hb)
  replace HA := Lib.hid (HA.out.below hb)
  replace HC := Lib.hid (HC.out.below hb)
  clear hb
  go_wp2_with fail
  refine calls_name fun W1 hW => ?_
  have hs_W1 : wa.heap.size ≤ W1.heap.size := by rw [← hW]; (first | omega | (simp; done) | (simp; omega))
  have HL_W1 := Lib.hid (show Below wa.heap.size wa W1 by rw [← hW]; exact BlA)
  replace HB := Lib.hid (show Below w.heap.size w W1 by rw [← hW]; exact BlA)
  replace hN : N ≤ W1.heap.size := by rw [← hW]; (first | omega | (simp; done) | (simp; omega))
  replace hs0 : w.heap.size ≤ W1.heap.size := by rw [← hW]; (first | omega | (simp; done) | (simp; omega))
  replace HT := Lib.hid (HT.out.below HL_W1.out)
  replace HA := Lib.hid (HA.out.below HL_W1.out)
  replace HC := Lib.hid (HC.out.below HL_W1.out)
  clear HL_W1
  clear hW
  refine (xConvolve_long (N := N) _ _ _ _ _ _ x y L _ hN HA.out HC.out hL HV1.out HV2.out hlong).mono ?_
  rintro e wb ⟨rfl, hb⟩
  have hs_wb : W1.heap.size ≤ wb.heap.size := hb.size
  replace HB := Lib.hid (HB.out.trans (hb.mono hs0))
  replace hN : N ≤ wb.heap.size := Nat.le_trans hN hb.size
  replace hs0 : w.heap.size ≤ wb.heap.size := Nat.le_trans hs0 hb.size
  replace HT := Lib.hid (HT.out.below hb)
  replace HA := Lib.hid (HA.out.below hb)
  replace HC := Lib.hid (HC.out.below hb)
  clear hb
  go_wp2_with fail
  refine calls_name fun W2 hW => ?_
  have hs_W2 : wb.heap.size ≤ W2.heap.size := by rw [← hW]; (first | omega | (simp; done) | (simp; omega))
  have HL_W2 := Lib.hid (show Below wb.heap.size wb W2 by rw [← hW]; exact BlA)
  replace HB := Lib.hid (show Below w.heap.size w W2 by rw [← hW]; exact BlA)
  replace hN : N ≤ W2.heap.size := by rw [← hW]; (first | omega | (simp; done) | (simp; omega))
  replace hs0 : w.heap.size ≤ W2.heap.size := by rw [← hW]; (first | omega | (simp; done) | (simp; omega))
  replace HT := Lib.hid (HT.out.below HL_W2.out)
  replace HA := Lib.hid (HA.out.below HL_W2.out)
  replace HC := Lib.hid (HC.out.below HL_W2.out)
  clear HL_W2
  clear hW
  refine (SameList_nil _).mono ?_
  rintro e wc ⟨rfl, hb⟩
  have hs_wc : W2.heap.size ≤ wc.heap.size := hb.size
  replace HB := Lib.hid (HB.out.trans (hb.mono hs0))
  replace hN : N ≤ wc.heap.size := Nat.le_trans hN hb.size
  replace hs0 : w.heap.size ≤ wc.heap.size := Nat.le_trans hs0 hb.size
  replace HT := Lib.hid (HT.out.below hb)
  replace HA := Lib.hid (HA.out.below hb)
  replace HC := Lib.hid (HC.out.below hb)
  clear hb
  go_wp2_with fail
  refine calls_name fun W3 hW => ?_
  have hs_W3 : wc.heap.size ≤ W3.heap.size := by rw [← hW]; (first | omega | (simp; done) | (simp; omega))
  have HL_W3 := Lib.hid (show Below wc.heap.size wc W3 by rw [← hW]; exact BlA)
  replace HB := Lib.hid (show Below w.heap.size w W3 by rw [← hW]; exact BlA)
  replace hN : N ≤ W3.heap.size := by rw [← hW]; (first | omega | (simp; done) | (simp; omega))
  replace hs0 : w.heap.size ≤ W3.heap.size := by rw [← hW]; (first | omega | (simp; done) | (simp; omega))
  replace HT := Lib.hid (HT.out.below HL_W3.out)
  replace HA := Lib.hid (HA.out.below HL_W3.out)
  replace HC := Lib.hid (HC.out.below HL_W3.out)
  clear HL_W3
  clear hW
  refine (awake_any (N := N) _ hN HT.out).mono ?_
  rintro e wd ⟨rfl, hb⟩
  have hs_wd : W3.heap.size ≤ wd.heap.size := hb.size
  replace HB := Lib.hid (HB.out.trans (hb.mono hs0))
  replace hN : N ≤ wd.heap.size := Nat.le_trans hN hb.size
  replace hs0 : w.heap.size ≤ wd.heap.size := Nat.le_trans hs0 hb.size
  replace HT := Lib.hid (HT.out.below hb)
  replace HA := Lib.hid (HA.out.below hb)
  replace HC := Lib.hid (HC.out.below hb)
  clear hb
  go_wp2_with fail
  go_ret
  exact ⟨rfl, HB.out⟩

set_option maxHeartbeats 2000000 in
theorem sums_ok {N : Nat} (a b : Option Addr) (n ca m cb : Nat) (x y : Nat → Rat) (L : Nat) (w : World) (hN : N ≤ w.heap.size) (h : Rs N w a n ca x L) (h' : Rs N w b m cb y L) (hL : L ≤ 2097152) (htab : TabW w) (hvx : valid x n = true) (hvy : valid y m = true) (M : Nat) (hM : n + m = M + 1) (hshort : M ≤ 121) : Calls Tryz.prog 6 #[.slice a n ca, .slice b m cb] w fun e w' => e = .returned (.bool true) ∧ Below w.heap.size w w' := by
  have HV1 := Lib.hid hvx
  have HV2 := Lib.hid hvy
  clear hvx hvy
  have hN0 := hN
  have HT := Lib.hid htab
  have HA := Lib.hid h
  have HC := Lib.hid h'
  clear htab h h'
  have HB := Lib.hid (Below.refl w.heap.size w)
  go_enter Tryz.func6, Tryz.ntmps6
  go_wp2_with fail
  refine calls_name fun W0 hW => ?_
  have hs_W0 : w.heap.size ≤ W0.heap.size := by rw [← hW]; (first | omega | (simp; done) | (simp; omega))
  have HL_W0 := Lib.hid (show Below w.heap.size w W0 by rw [← hW]; exact BlA)
  replace HB := Lib.hid (show Below w.heap.size w W0 by rw [← hW]; exact BlA)
  replace hN : N ≤ W0.heap.size := by rw [← hW]; (first | omega | (simp; done) | (simp; omega))
  have hs0 : w.heap.size ≤ W0.heap.size := by rw [← hW]; (first | omega | (simp; done) | (simp; omega))
  replace HT := Lib.hid (HT.out.below HL_W0.out)
  replace HA := Lib.hid (HA.out.below HL_W0.out)
  replace HC := Lib.hid (HC.out.below HL_W0.out)
  clear HL_W0
  clear hW
  refine (Convolve_ok (N := N) _ _ _ _ _ _ x y L _ hN HA.out HC.out hL HV1.out HV2.out M hM hshort (cnv x n y m) (fun _ _ => rfl)).mono ?_
  rintro e wa ⟨ba, rfl, hb1a, hb2a, hn, hb⟩
  have hs_wa : W0.heap.size ≤ wa.heap.size := hb.size
  replace HB := Lib.hid (HB.out.trans (hb.mono hs0))
  replace hN : N ≤ wa.heap.size := Nat.le_trans hN hb.size
  replace hs0 : w.heap.size ≤ wa.heap.size := Nat.le_trans hs0 hb.size
  replace HT := Lib.hid (HT.out.below hb)
  replace HA := Lib.hid (HA.out.below hb)
  replace HC := Lib.hid (HC.out.below hb)
  clear hb
  have HTa := Lib.hid hn
  clear hn
  go_wp2_with fail
  refine calls_name fun W1 hW => ?_
  have hs_W1 : wa.heap.size ≤ W1.heap.size := by rw [← hW]; (first | omega | (simp; done) | (simp; omega))
  have HL_W1 := Lib.hid (show Below wa.heap.size wa W1 by rw [← hW]; exact BlA)
  replace HB := Lib.hid (show Below w.heap.size w W1 by rw [← hW]; exact BlA)
  replace hN : N ≤ W1.heap.size := by rw [← hW]; (first | omega | (simp; done) | (simp; omega))
  replace hs0 : w.heap.size ≤ W1.heap.size := by rw [← hW]; (first | omega | (simp; done) | (simp; omega))
  replace HTa := Lib.hid (HTa.out.below HL_W1.out)
  replace HT := Lib.hid (HT.out.below HL_W1.out)
  replace HA := Lib.hid (HA.out.below HL_W1.out)
  replace HC := Lib.hid (HC.out.below HL_W1.out)
  clear HL_W1
  clear hW
  have lt_HTa := HTa.out.lt
  refine (xConvolve_ok (N := N) _ _ _ _ _ _ x y L _ hN HA.out HC.out hL HV1.out HV2.out M hM hshort (cnv x n y m) (fun _ _ => rfl)).mono ?_
  rintro e wb ⟨ao, co, rfl, hn, hb⟩
  have hs_wb : W1.heap.size ≤ wb.heap.size := hb.size
  replace HB := Lib.hid (HB.out.trans (hb.mono hs0))
  replace hN : N ≤ wb.heap.size := Nat.le_trans hN hb.size
  replace hs0 : w.heap.size ≤ wb.heap.size := Nat.le_trans hs0 hb.size
  replace HTa := Lib.hid (HTa.out.below hb)
  replace HT := Lib.hid (HT.out.below hb)
  replace HA := Lib.hid (HA.out.below hb)
  replace HC := Lib.hid (HC.out.below hb)
  clear hb
  have HR := Lib.hid hn
  clear hn
  go_wp2_with fail
  refine calls_name fun W2 hW => ?_
  have hs_W2 : wb.heap.size ≤ W2.heap.size := by rw [← hW]; (first | omega | (simp; done) | (simp; omega))
  have HL_W2 := Lib.hid (show Below wb.heap.size wb W2 by rw [← hW]; exact BlA)
  replace HB := Lib.hid (show Below w.heap.size w W2 by rw [← hW]; exact BlA)
  replace hN : N ≤ W2.heap.size := by rw [← hW]; (first | omega | (simp; done) | (simp; omega))
  replace hs0 : w.heap.size ≤ W2.heap.size := by rw [← hW]; (first | omega | (simp; done) | (simp; omega))
  replace HTa := Lib.hid (HTa.out.below HL_W2.out)
  replace HT := Lib.hid (HT.out.below HL_W2.out)
  replace HA := Lib.hid (HA.out.below HL_W2.out)
  replace HC := Lib.hid (HC.out.below HL_W2.out)
  replace HR := Lib.hid (HR.out.below HL_W2.out)
  clear HL_W2
  clear hW
  have lt_HTa := HTa.out.lt
  refine (SameList_rn (N := N) _ _ _ _ _ (cnv x n y m) _ hN (HTa.out.rn (by unfold maxLen; omega)) HR.out).mono ?_
  rintro e wc ⟨rfl, hb⟩
  have hs_wc : W2.heap.size ≤ wc.heap.size := hb.size
  replace HB := Lib.hid (HB.out.trans (hb.mono hs0))
  replace hN : N ≤ wc.heap.size := Nat.le_trans hN hb.size
  replace hs0 : w.heap.size ≤ wc.heap.size := Nat.le_trans hs0 hb.size
  replace HTa := Lib.hid (HTa.out.below hb)
  replace HT := Lib.hid (HT.out.below hb)
  replace HA := Lib.hid (HA.out.below hb)
  replace HC := Lib.hid (HC.out.below hb)
  replace HR := Lib.hid (HR.out.below hb)
  clear hb
  go_wp2_with fail
  refine calls_name fun W3 hW => ?_
  have hs_W3 : wc.heap.size ≤ W3.heap.size := by rw [← hW]; (first | omega | (simp; done) | (simp; omega))
  have HL_W3 := Lib.hid (show Below wc.heap.size wc W3 by rw [← hW]; exact BlA)
  replace HB := Lib.hid (show Below w.heap.size w W3 by rw [← hW]; exact BlA)
  replace hN : N ≤ W3.heap.size := by rw [← hW]; (first | omega | (simp; done) | (simp; omega))
  replace hs0 : w.heap.size ≤ W3.heap.size := by rw [← hW]; (first | omega | (simp; done) | (simp; omega))
  replace HTa := Lib.hid (HTa.out.below HL_W3.out)
  replace HT := Lib.hid (HT.out.below HL_W3.out)
  replace HA := Lib.hid (HA.out.below HL_W3.out)
  replace HC := Lib.hid (HC.out.below HL_W3.out)
  replace HR := Lib.hid (HR.out.below HL_W3.out)
  clear HL_W3
  clear hW
  have lt_HTa := HTa.out.lt
  refine (awake_any (N := N) _ hN HT.out).mono ?_
  rintro e wd ⟨rfl, hb⟩
  have hs_wd : W3.heap.size ≤ wd.heap.size := hb.size
  replace HB := Lib.hid (HB.out.trans (hb.mono hs0))
  replace hN : N ≤ wd.heap.size := Nat.le_trans hN hb.size
  replace hs0 : w.heap.size ≤ wd.heap.size := Nat.le_trans hs0 hb.size
  replace HTa := Lib.hid (HTa.out.below hb)
  replace HT := Lib.hid (HT.out.below hb)
  replace HA := Lib.hid (HA.out.below hb)
  replace HC := Lib.hid (HC.out.below hb)
  replace HR := Lib.hid (HR.out.below hb)
  clear hb
  go_wp2_with fail
  go_ret
  exact ⟨rfl, HB.out⟩

theorem sums_any {N : Nat} (a b : Option Addr) (n ca m cb : Nat) (x y : Nat → Rat) (L : Nat) (w : World) (hN : N ≤ w.heap.size) (h : Rs N w a n ca x L) (h' : Rs N w b m cb y L) (hL : L ≤ 2097152) (htab : TabW w) : Calls Tryz.prog 6 #[.slice a n ca, .slice b m cb] w fun e w' => e = .returned (.bool true) ∧ Below w.heap.size w w' := by
  cases hv1 : valid x n
  · exact sums_bad a b n ca m cb x y L w hN h h' hL htab (Or.inl hv1)
  · cases hv2 : valid y m
    · exact sums_bad a b n ca m cb x y L w hN h h' hL htab (Or.inr hv2)
    · have n1 := (valid_iff.1 hv1).1
      rcases Nat.lt_or_ge 122 (n + m) with hl | hl
      · exact sums_long a b n ca m cb x y L w hN h h' hL htab hv1 hv2 hl
      · exact sums_ok a b n ca m cb x y L w hN h h' hL htab hv1 hv2 (n + m - 1) (by omega) (by omega)

set_option maxHeartbeats 2000000 in
theorem trl_bad {N : Nat} (a : Option Addr) (n cap : Nat) (q : Nat → Rat) (L : Nat) (w : World) (hN : N ≤ w.heap.size) (h : Rs N w a n cap q L) (hL : L ≤ 2097152) (htab : TabW w) (hv : ∃ j, j < n ∧ prb (q j) = false) : Calls Tryz.prog 5 #[.slice a n cap] w fun e w' => e = .returned (.bool true) ∧ Below w.heap.size w w' := by
  have HV := Lib.hid hv
  clear hv
  have hN0 := hN
  have HT := Lib.hid htab
  have HA := Lib.hid h
  clear htab h
  have HB := Lib.hid (Below.refl w.heap.size w)
  go_enter Tryz.func5, Tryz.ntmps5
  go_wp2_with fail
  refine calls_name fun W0 hW => ?_
  have hs_W0 : w.heap.size ≤ W0.heap.size := by rw [← hW]; (first | omega | (simp; done) | (simp; omega))
  have HL_W0 := Lib.hid (show Below w.heap.size w W0 by rw [← hW]; exact BlA)
  replace HB := Lib.hid (show Below w.heap.size w W0 by rw [← hW]; exact BlA)
  replace hN : N ≤ W0.heap.size := by rw [← hW]; (first | omega | (simp; done) | (simp; omega))
  have hs0 : w.heap.size ≤ W0.heap.size := by rw [← hW]; (first | omega | (simp; done) | (simp; omega))
  replace HT := Lib.hid (HT.out.below HL_W0.out)
  replace HA := Lib.hid (HA.out.below HL_W0.out)
  clear HL_W0
  clear hW
  refine (trials_bad (N := N) _ _ _ q L _ hN HA.out hL HV.out).mono ?_
  rintro e wa ⟨rfl, hb⟩
  have hs_wa : W0.heap.size ≤ wa.heap.size := hb.size
  replace HB := Lib.hid (HB.out.trans (hb.mono hs0))
  replace hN : N ≤ wa.heap.size := Nat.le_trans hN hb.size
  replace hs0 : w.heap.size ≤ wa.heap.size := Nat.le_trans hs0 hb.size
  replace HT := Lib.hid (HT.out.below hb)
  replace HA := Lib.hid (HA.out.below hb)
  clear hb
  go_wp2_with fail
  refine calls_name fun W1 hW => ?_
  have hs_W1 : wa.heap.size ≤ W1.heap.size := by rw [← hW]; (first | omega | (simp; done) | (simp; omega))
  have HL_W1 := Lib.hid (show Below wa.heap.size wa W1 by rw [← hW]; exact BlA)
  replace HB := Lib.hid (show Below w.heap.size w W1 by rw [← hW]; exact BlA)
  replace hN : N ≤ W1.heap.size := by rw [← hW]; (first | omega | (simp; done) | (simp; omega))
  replace hs0 : w.heap.size ≤ W1.heap.size := by rw [← hW]; (first | omega | (simp; done) | (simp; omega))
  replace HT := Lib.hid (HT.out.below HL_W1.out)
  replace HA := Lib.hid (HA.out.below HL_W1.out)
  clear HL_W1
  clear hW
  refine (xtrials_bad (N := N) _ _ _ q L _ hN HA.out hL HV.out).mono ?_
  rintro e wb ⟨rfl, hb⟩
  have hs_wb : W1.heap.size ≤ wb.heap.size := hb.size
  replace HB := Lib.hid (HB.out.trans (hb.mono hs0))
  replace hN : N ≤ wb.heap.size := Nat.le_trans hN hb.size
  replace hs0 : w.heap.size ≤ wb.heap.size := Nat.le_trans hs0 hb.size
  replace HT := Lib.hid (HT.out.below hb)
  replace HA := Lib.hid (HA.out.below hb)
  clear hb
  go_wp2_with fail
  refine calls_name fun W2 hW => ?_
  have hs_W2 : wb.heap.size ≤ W2.heap.size := by rw [← hW]; (first | omega | (simp; done) | (simp; omega))
  have HL_W2 := Lib.hid (show Below wb.heap.size wb W2 by rw [← hW]; exact BlA)
  replace HB := Lib.hid (show Below w.heap.size w W2 by rw [← hW]; exact BlA)
  replace hN : N ≤ W2.heap.size := by rw [← hW]; (first | omega | (simp; done) | (simp; omega))
  replace hs0 : w.heap.size ≤ W2.heap.size := by rw [← hW]; (first | omega | (simp; done) | (simp; omega))
  replace HT := Lib.hid (HT.out.below HL_W2.out)
  replace HA := Lib.hid (HA.out.below HL_W2.out)
  clear HL_W2
  clear hW
  refine (SameList_nil _).mono ?_
  rintro e wc ⟨rfl, hb⟩
  have hs_wc : W2.heap.size ≤ wc.heap.size := hb.size
  replace HB := Lib.hid (HB.out.trans (hb.mono hs0))
  replace hN : N ≤ wc.heap.size := Nat.le_trans hN hb.size
  replace hs0 : w.heap.size ≤ wc.heap.size := Nat.le_trans hs0 hb.size
  replace HT := Lib.hid (HT.out.below hb)
  replace HA := Lib.hid (HA.out.below hb)
  clear hb
  go_wp2_with fail
  refine calls_name fun W3 hW => ?_
  have hs_W3 : wc.heap.size ≤ W3.heap.size := by rw [← hW]; (first | omega | (simp; done) | (simp; omega))
  have HL_W3 := Lib.hid (show Below wc.heap.size wc W3 by rw [← hW]; exact BlA)
  replace HB := Lib.hid (show Below w.heap.size w W3 by rw [← hW]; exact BlA)
  replace hN : N ≤ W3.heap.size := by rw [← hW]; (first | omega | (simp; done) | (simp; omega))
  replace hs0 : w.heap.size ≤ W3.heap.size := by rw [← hW]; (first | omega | (simp; done) | (simp; omega))
  replace HT := Lib.hid (HT.out.below HL_W3.out)
  replace HA := Lib.hid (HA.out.below HL_W3.out)
  clear HL_W3
  clear hW
  refine (awake_any (N := N) _ hN HT.out).mono ?_
  rintro e wd ⟨rfl, hb⟩
  have hs_wd : W3.heap.size ≤ wd.heap.size := hb.size
  replace HB := Lib.hid (HB.out.trans (hb.mono hs0))
  replace hN : N ≤ wd.heap.size := Nat.le_trans hN hb.size
  replace hs0 : w.heap.size ≤ wd.heap.size := Nat.le_trans hs0 hb.size
  replace HT := Lib.hid (HT.out.below hb)
  replace HA := Lib.hid (HA.out.below hb)
  clear hb
  go_wp2_with fail
  go_ret
  exact ⟨rfl, HB.out⟩

set_option maxHeartbeats 2000000 in
theorem trl_long {N : Nat} (a : Option Addr) (n cap : Nat) (q : Nat → Rat) (L : Nat) (w : World) (hN : N ≤ w.heap.size) (h : Rs N w a n cap q L) (hL : L ≤ 2097152) (htab : TabW w) (hv : ∀ j, j < n → prb (q j) = true) (hn : 121 ≤ n) : Calls Tryz.prog 5 #[.slice a n cap] w fun e w' => e = .returned (.bool true) ∧ Below w.heap.size w w' := by
  have HV := Lib.hid hv
  clear hv
  have hN0 := hN
  have HT := Lib.hid htab
  have HA := Lib.hid h
  clear htab h
  have HB := Lib.hid (Below.refl w.heap.size w)
  go_enter Tryz.func5, Tryz.ntmps5
  go_wp2_with fail
  refine calls_name fun W0 hW => ?_
  have hs_W0 : w.heap.size ≤ W0.heap.size := by rw [← hW]; (first | omega | (simp; done) | (simp; omega))
  have HL_W0 := Lib.hid (show Below w.heap.size w W0 by rw [← hW]; exact BlA)
  replace HB := Lib.hid (show Below w.heap.size w W0 by rw [← hW]; exact BlA)
  replace hN : N ≤ W0.heap.size := by rw [← hW]; (first | omega | (simp; done) | (simp; omega))
  have hs0 : w.heap.size ≤ W0.heap.size := by rw [← hW]; (first | omega | (simp; done) | (simp; omega))
  replace HT := Lib.hid (HT.out.below HL_W0.out)
  replace HA := Lib.hid (HA.out.below HL_W0.out)
  clear HL_W0
  clear hW
  refine (trials_long (N := N) _ _ _ q L _ hN HA.out hL HV.out hn).mono ?_
  rintro e wa ⟨rfl, hb⟩
  have hs_wa : W0.heap.size ≤ wa.heap.size := hb.size
  replace HB := Lib.hid (HB.out.trans (hb.mono hs0))
  replace hN : N ≤ wa.heap.size := Nat.le_trans hN hb.size
  replace hs0 : w.heap.size ≤ wa.heap.size := Nat.le_trans hs0 hb.size
  replace HT := Lib.hid (HT.out.below hb)
  replace HA := Lib.hid (HA.out.below hb)
  clear hb
  go_wp2_with fail
  refine calls_name fun W1 hW => ?_
  have hs_W1 : wa.heap.size ≤ W1.heap.size := by rw [← hW]; (first | omega | (simp; done) | (simp; omega))
  have HL_W1 := Lib.hid (show Below wa.heap.size wa W1 by rw [← hW]; exact BlA)
  replace HB := Lib.hid (show Below w.heap.size w W1 by rw [← hW]; exact BlA)
  replace hN : N ≤ W1.heap.size := by rw [← hW]; (first | omega | (simp; done) | (simp; omega))
  replace hs0 : w.heap.size ≤ W1.heap.size := by rw [← hW]; (first | omega | (simp; done) | (simp; omega))
  replace HT := Lib.hid (HT.out.below HL_W1.out)
  replace HA := Lib.hid (HA.out.below HL_W1.out)
  clear HL_W1
  clear hW
  refine (xtrials_long (N := N) _ _ _ q L _ hN HA.out hL HV.out hn).mono ?_
  rintro e wb ⟨rfl, hb⟩
  have hs_wb : W1.heap.size ≤ wb.heap.size := hb.size
  replace HB := Lib.hid (HB.out.trans (hb.mono hs0))
  replace hN : N ≤ wb.heap.size := Nat.le_trans hN hb.size
  replace hs0 : w.heap.size ≤ wb.heap.size := Nat.le_trans hs0 hb.size
  replace HT := Lib.hid (HT.out.below hb)
  replace HA := Lib.hid (HA.out.below hb)
  clear hb
  go_wp2_with fail
  refine calls_name fun W2 hW => ?_
  have hs_W2 : wb.heap.size ≤ W2.heap.size := by rw [← hW]; (first | omega | (simp; done) | (simp; omega))
  have HL_W2 := Lib.hid (show Below wb.heap.size wb W2 by rw [← hW]; exact BlA)
  replace HB := Lib.hid (show Below w.heap.size w W2 by rw [← hW]; exact BlA)
  replace hN : N ≤ W2.heap.size := by rw [← hW]; (first | omega | (simp; done) | (simp; omega))
  replace hs0 : w.heap.size ≤ W2.heap.size := by rw [← hW]; (first | omega | (simp; done) | (simp; omega))
  replace HT := Lib.hid (HT.out.below HL_W2.out)
  replace HA := Lib.hid (HA.out.below HL_W2.out)
  clear HL_W2
  clear hW
  refine (SameList_nil _).mono ?_
  rintro e wc ⟨rfl, hb⟩
  have hs_wc : W2.heap.size ≤ wc.heap.size := hb.size
  replace HB := Lib.hid (HB.out.trans (hb.mono hs0))
  replace hN : N ≤ wc.heap.size := Nat.le_trans hN hb.size
  replace hs0 : w.heap.size ≤ wc.heap.size := Nat.le_trans hs0 hb.size
  replace HT := Lib.hid (HT.out.below hb)
  replace HA := Lib.hid (HA.out.below hb)
  clear hb
  go_wp2_with fail
  refine calls_name fun W3 hW => ?_
  have hs_W3 : wc.heap.size ≤ W3.heap.size := by rw [← hW]; (first | omega | (simp; done) | (simp; omega))
  have HL_W3 := Lib.hid (show Below wc.heap.size wc W3 by rw [← hW]; exact BlA)
  replace HB := Lib.hid (show Below w.heap.size w W3 by rw [← hW]; exact BlA)
  replace hN : N ≤ W3.heap.size := by rw [← hW]; (first | omega | (simp; done) | (simp; omega))
  replace hs0 : w.heap.size ≤ W3.heap.size := by rw [← hW]; (first | omega | (simp; done) | (simp; omega))
  replace HT := Lib.hid (HT.out.below HL_W3.out)
  replace HA := Lib.hid (HA.out.below HL_W3.out)
  clear HL_W3
  clear hW
  refine (awake_any (N := N) _ hN HT.out).mono ?_
  rintro e wd ⟨rfl, hb⟩
  have hs_wd : W3.heap.size ≤ wd.heap.size := hb.size
  replace HB := Lib.hid (HB.out.trans (hb.mono hs0))
  replace hN : N ≤ wd.heap.size := Nat.le_trans hN hb.size
  replace hs0 : w.heap.size ≤ wd.heap.size := Nat.le_trans hs0 hb.size
  replace HT := Lib.hid (HT.out.below hb)
  replace HA := Lib.hid (HA.out.below hb)
  clear hb
  go_wp2_with fail
  go_ret
  exact ⟨rfl, HB.out⟩

set_option maxHeartbeats 2000000 in
theorem trl_ok {N : Nat} (a : Option Addr) (n cap : Nat) (q : Nat → Rat) (L : Nat) (w : World) (hN : N ≤ w.heap.size) (h : Rs N w a n cap q L) (hL : L ≤ 2097152) (htab : TabW w) (hv : ∀ j, j < n → prb (q j) = true) (hn : n ≤ 120) (hz : szQ q n ≤ 1048576) : Calls Tryz.prog 5 #[.slice a n cap] w fun e w' => e = .returned (.bool true) ∧ Below w.heap.size w w' := by
  have HV := Lib.hid hv
  clear hv
  have hN0 := hN
  have HT := Lib.hid htab
  have HA := Lib.hid h
  clear htab h
  have HB := Lib.hid (Below.refl w.heap.size w)
  go_enter Tryz.func5, Tryz.ntmps5
  go_wp2_with fail
  refine calls_name fun W0 hW => ?_
  have hs_W0 : w.heap.size ≤ W0.heap.size := by rw [← hW]; (first | omega | (simp; done) | (simp; omega))
  have HL_W0 := Lib.hid (show Below w.heap.size w W0 by rw [← hW]; exact BlA)
  replace HB := Lib.hid (show Below w.heap.size w W0 by rw [← hW]; exact BlA)
  replace hN : N ≤ W0.heap.size := by rw [← hW]; (first | omega | (simp; done) | (simp; omega))
  have hs0 : w.heap.size ≤ W0.heap.size := by rw [← hW]; (first | omega | (simp; done) | (simp; omega))
  replace HT := Lib.hid (HT.out.below HL_W0.out)
  replace HA := Lib.hid (HA.out.below HL_W0.out)
  clear HL_W0
  clear hW
  refine (trials_ok (N := N) _ _ _ q L _ hN HA.out hL HV.out hn (tri q n) (tri_frq q n HV.out)).mono ?_
  rintro e wa ⟨ba, rfl, hb1a, hb2a, hn, hb⟩
  have hs_wa : W0.heap.size ≤ wa.heap.size := hb.size
  replace HB := Lib.hid (HB.out.trans (hb.mono hs0))
  replace hN : N ≤ wa.heap.size := Nat.le_trans hN hb.size
  replace hs0 : w.heap.size ≤ wa.heap.size := Nat.le_trans hs0 hb.size
  replace HT := Lib.hid (HT.out.below hb)
  replace HA := Lib.hid (HA.out.below hb)
  clear hb
  have HTa := Lib.hid hn
  clear hn
  go_wp2_with fail
  refine calls_name fun W1 hW => ?_
  have hs_W1 : wa.heap.size ≤ W1.heap.size := by rw [← hW]; (first | omega | (simp; done) | (simp; omega))
  have HL_W1 := Lib.hid (show Below wa.heap.size wa W1 by rw [← hW]; exact BlA)
  replace HB := Lib.hid (show Below w.heap.size w W1 by rw [← hW]; exact BlA)
  replace hN : N ≤ W1.heap.size := by rw [← hW]; (first | omega | (simp; done) | (simp; omega))
  replace hs0 : w.heap.size ≤ W1.heap.size := by rw [← hW]; (first | omega | (simp; done) | (simp; omega))
  replace HTa := Lib.hid (HTa.out.below HL_W1.out)
  replace HT := Lib.hid (HT.out.below HL_W1.out)
  replace HA := Lib.hid (HA.out.below HL_W1.out)
  clear HL_W1
  clear hW
  have lt_HTa := HTa.out.lt
  refine (xtrials_ok (N := N) _ _ _ q L _ hN HA.out hL HV.out hn hz).mono ?_
  rintro e wb ⟨ao, co, rfl, hn, hb⟩
  have hs_wb : W1.heap.size ≤ wb.heap.size := hb.size
  replace HB := Lib.hid (HB.out.trans (hb.mono hs0))
  replace hN : N ≤ wb.heap.size := Nat.le_trans hN hb.size
  replace hs0 : w.heap.size ≤ wb.heap.size := Nat.le_trans hs0 hb.size
  replace HTa := Lib.hid (HTa.out.below hb)
  replace HT := Lib.hid (HT.out.below hb)
  replace HA := Lib.hid (HA.out.below hb)
  clear hb
  have HR := Lib.hid hn
  clear hn
  go_wp2_with fail
  refine calls_name fun W2 hW => ?_
  have hs_W2 : wb.heap.size ≤ W2.heap.size := by rw [← hW]; (first | omega | (simp; done) | (simp; omega))
  have HL_W2 := Lib.hid (show Below wb.heap.size wb W2 by rw [← hW]; exact BlA)
  replace HB := Lib.hid (show Below w.heap.size w W2 by rw [← hW]; exact BlA)
  replace hN : N ≤ W2.heap.size := by rw [← hW]; (first | omega | (simp; done) | (simp; omega))
  replace hs0 : w.heap.size ≤ W2.heap.size := by rw [← hW]; (first | omega | (simp; done) | (simp; omega))
  replace HTa := Lib.hid (HTa.out.below HL_W2.out)
  replace HT := Lib.hid (HT.out.below HL_W2.out)
  replace HA := Lib.hid (HA.out.below HL_W2.out)
  replace HR := Lib.hid (HR.out.below HL_W2.out)
  clear HL_W2
  clear hW
  have lt_HTa := HTa.out.lt
  refine (SameList_rn (N := N) _ _ _ _ _ (tri q n) _ hN (HTa.out.rn (by unfold maxLen; omega)) HR.out).mono ?_
  rintro e wc ⟨rfl, hb⟩
  have hs_wc : W2.heap.size ≤ wc.heap.size := hb.size
  replace HB := Lib.hid (HB.out.trans (hb.mono hs0))
  replace hN : N ≤ wc.heap.size := Nat.le_trans hN hb.size
  replace hs0 : w.heap.size ≤ wc.heap.size := Nat.le_trans hs0 hb.size
  replace HTa := Lib.hid (HTa.out.below hb)
  replace HT := Lib.hid (HT.out.below hb)
  replace HA := Lib.hid (HA.out.below hb)
  replace HR := Lib.hid (HR.out.below hb)
  clear hb
  go_wp2_with fail
  refine calls_name fun W3 hW => ?_
  have hs_W3 : wc.heap.size ≤ W3.heap.size := by rw [← hW]; (first | omega | (simp; done) | (simp; omega))
  have HL_W3 := Lib.hid (show Below wc.heap.size wc W3 by rw [← hW]; exact BlA)
  replace HB := Lib.hid (show Below w.heap.size w W3 by rw [← hW]; exact BlA)
  replace hN : N ≤ W3.heap.size := by rw [← hW]; (first | omega | (simp; done) | (simp; omega))
  replace hs0 : w.heap.size ≤ W3.heap.size := by rw [← hW]; (first | omega | (simp; done) | (simp; omega))
  replace HTa := Lib.hid (HTa.out.below HL_W3.out)
  replace HT := Lib.hid (HT.out.below HL_W3.out)
  replace HA := Lib.hid (HA.out.below HL_W3.out)
  replace HR := Lib.hid (HR.out.below HL_W3.out)
  clear HL_W3
  clear hW
  have lt_HTa := HTa.out.lt
  refine (awake_any (N := N) _ hN HT.out).mono ?_
  rintro e wd ⟨rfl, hb⟩
  have hs_wd : W3.heap.size ≤ wd.heap.size := hb.size
  replace HB := Lib.hid (HB.out.trans (hb.mono hs0))
  replace hN : N ≤ wd.heap.size := Nat.le_trans hN hb.size
  replace hs0 : w.heap.size ≤ wd.heap.size := Nat.le_trans hs0 hb.size
  replace HTa := Lib.hid (HTa.out.below hb)
  replace HT := Lib.hid (HT.out.below hb)
  replace HA := Lib.hid (HA.out.below hb)
  replace HR := Lib.hid (HR.out.below hb)
  clear hb
  go_wp2_with fail
  go_ret
  exact ⟨rfl, HB.out⟩

theorem trl_any {N : Nat} (a : Option Addr) (n cap : Nat) (q : Nat → Rat) (L : Nat) (w : World) (hN : N ≤ w.heap.size) (h : Rs N w a n cap q L) (hL : L ≤ 2097152) (htab : TabW w) (hz : szQ q n ≤ 1048576) : Calls Tryz.prog 5 #[.slice a n cap] w fun e w' => e = .returned (.bool true) ∧ Below w.heap.size w w' := by
  by_cases hx : ∃ j, j < n ∧ prb (q j) = false
  · exact trl_bad a n cap q L w hN h hL htab hx
  · have hp : ∀ j, j < n → prb (q j) = true := fun j hj => by
      cases hc : prb (q j)
      · exact absurd ⟨j, hj, hc⟩ hx
      · rfl
    rcases Nat.lt_or_ge 120 n with hn | hn
    · exact trl_long a n cap q L w hN h hL htab hp hn
    · exact trl_ok a n cap q L w hN h hL htab hp hn hz

end Go.Proofs.YtbjgnpgachdlaaaGreatDoor

namespace Go.Proofs.YtbjgnpgachdlaaaGreatDoor
open Go.RowKit Go.ChangeShapes Go.WideShapes Go.ChangeAt Go.Deep

theorem Tryz.gTab : Tryz.prog.globalNamed "internal/strconv.uint64pow10" = some 0 := by kernel_rfl
theorem Tryz.gTabType : (Tryz.prog.globals[0]?).map (·.type) = some 125 := by kernel_rfl
theorem Tryz.cellsTab : Tryz.prog.cellsOf 125 = 20 := by kernel_rfl
theorem Tryz.cellsU64 : Tryz.prog.cellsOf 65 = 1 := by kernel_rfl
theorem pow_data : (Rows.laid_internal_strconv_uint64pow10 : DataW Unit) = Lib.tabData .u64 Lib.pow10Tab := by kernel_rfl
def laid3 : List (String × DataW Unit) := [("math/bits.deBruijn32tab", Rows.laid_math_bits_deBruijn32tab), ("math/bits.deBruijn64tab", Rows.laid_math_bits_deBruijn64tab), ("internal/strconv.uint64pow10", Rows.laid_internal_strconv_uint64pow10)]
/-- what the row's list gives: the table of powers of ten -/
theorem tabW_of {W : World} (h : laidMetH Tryz.prog laid3 W) : TabW W := by
  rw [MakeChecks.laidMetH_plain _ _ _ (by kernel_rfl)] at h
  obtain ⟨ps, ⟨g0, t0, cs0, f0, p0, q0, hg0, ht0, hv0, hd0, ⟨g1, t1, cs1, f1, p1, q1, hg1, ht1, hv1, hd1, ⟨g2, t2, cs2, f2, p2, q2, hg2, ht2, hv2, hd2, _, _⟩, _⟩, _⟩, _, _⟩ := h
  obtain rfl := Option.some.inj (Tryz.gTab.symm.trans hg2)
  obtain rfl := Option.some.inj (Tryz.gTabType.symm.trans ht2)
  unfold TabW Lib.TabIs
  rw [pow_data] at hd2
  rw [hv2, ← Lib.cells_of_tab Tryz.underlying125 Tryz.underlying65 Tryz.cellsU64 Tryz.cellsTab hd2]
/-- the door's own heap meets the condition -/
theorem door_met (os : Os) (args : Array Value) : laidMetH Tryz.prog laid3 ((World.doorLaid Tryz.prog 24 os).forCall (fun _ _ => 0) ⟨#[], args, []⟩).memory :=
  laidMetH_of_parts3 (fuel := 8) (laidMet_of_run' 8 (by kernel_rfl) (by kernel_rfl)) (by kernel_rfl) (by kernel_rfl)

set_option maxRecDepth 100000 in
theorem exactSums_contract (H : Type) (enc : TypeId × Value → H) (W : World) (base : Nat) (args : Array Value) (ds gs : List (DataW H)) (before : List MemPlace)
    (hval0 : ∀ (j : Nat) t v, Tryz.f6.params[j]? = some t → args[j]? = some v → Value.okWide Tryz.prog W .any base t v)
    (hW : DataW.Whole enc Tryz.prog Tryz.f6.params.toList Rows.exactSumsSpec.vars false W args.toList ds gs before) (hL : laidMetH Tryz.prog laid3 W) (hk : Rows.uptoSmall H (ds ++ gs) = true) :
    Calls Tryz.prog 6 args W fun e W' => ∃ v, e = .returned v ∧ Rows.exactSumsSpec.post enc Tryz.prog Tryz.f6 false true false false W args v W' := by
  have hval : ∀ (j : Nat) t v, Tryz.f6.params[j]? = some t → args[j]? = some v → Value.okWide Tryz.prog W .any base t v := hval0
  have hW' := hW
  obtain ⟨p, q, hA0, hV, rfl, hfz, hnd⟩ := hW
  have hA : DataW.TrodAll enc Tryz.prog W 0 (fun _ => true) true Tryz.f6.params.toList args.toList ds p := hA0
  rw [Tryz.params6] at hA hval
  obtain ⟨v0, vs0, x0, ds0, p0, q0, hargs, rfl, rfl, h0, r0⟩ := trodAll_cons hA
  obtain ⟨v1, vs1, x1, ds1, p1, q1, rfl, rfl, rfl, h1, r1⟩ := trodAll_cons r0
  obtain ⟨rfl, rfl, rfl⟩ := trodAll_nil r1
  obtain rfl : args = #[v0, v1] := by cases args; simp_all
  obtain ⟨rfl, rfl⟩ := trodVars_none hV
  have hbulk := of_decide_eq_true hk
  simp only [List.append_nil, Rows.uptoBulkAll] at hbulk
  have k0 := h0
  have lt0 : ∀ x ∈ p0, x.block < W.heap.size := by obtain ⟨m, hm⟩ := k0; exact DataW.trod_lt m _ _ _ hm
  obtain ⟨a0, n0, c0, rfl⟩ := okWide_slice Tryz.underlying22 (hval 0 22 v0 rfl rfl); obtain ⟨q0', hr0⟩ := open_rats h0 (by omega)
  have k1 := h1
  have lt1 : ∀ x ∈ p1, x.block < W.heap.size := by obtain ⟨m, hm⟩ := k1; exact DataW.trod_lt m _ _ _ hm
  obtain ⟨a1, n1, c1, rfl⟩ := okWide_slice Tryz.underlying22 (hval 1 22 v1 rfl rfl); obtain ⟨q1', hr1⟩ := open_rats h1 (by omega)
  clear hA0 hval0
  have htab := tabW_of hL
  refine (sums_any (N := W.heap.size) a0 a1 n0 c0 n1 c1 q0' q1' 2097152 W (Nat.le_refl _) hr0 hr1 (Nat.le_refl _) htab).mono fun e W' ⟨he, bel⟩ => ?_
  subst he
  exact ⟨_, rfl, _, _, _, [], _, [], hW', trodAll_mk1 (shut_bool Tryz.underlying4 _), (trodAll_cons_mk (Below.trod Tryz.laidOut (by kernel_rfl) (of_decide_eq_true (by kernel_rfl)) k0 bel lt0) (trodAll_cons_mk (Below.trod Tryz.laidOut (by kernel_rfl) (of_decide_eq_true (by kernel_rfl)) k1 bel lt1) trodAll_mk0)), rfl, bel.frame _, fun h => by cases h⟩

theorem exactSums_reads (os : Os) {H : Type} (enc : TypeId × Value → H) : ∃ places, DataW.whole enc Tryz.prog ((World.doorLaid Tryz.prog 24 os).forCall (fun _ _ => 0) ⟨#[], #[.slice none 0 0, .slice none 0 0], []⟩).memory Tryz.f6.params.toList Rows.exactSumsSpec.vars false #[.slice none 0 0, .slice none 0 0].toList 8 = some ([.nil, .nil], [], places) :=
  ⟨[], by kernel_rfl⟩

set_option maxRecDepth 100000 in
theorem exactSums_liftedUpto (os : Os) (started : os.Started) (H : Type) (enc : TypeId × Value → H) (F : Stop.Interp) :
    ReturnsInHanded {} Tryz.checked os 6 .any ((Rows.OpenSpec.upto Rows.exactSumsSpec).preRow enc Tryz.prog Tryz.f6 Rows.exactSumsUptoRow.domain false Rows.exactSumsUptoRow.laid) (((Rows.OpenSpec.upto Rows.exactSumsSpec).at F).post enc Tryz.prog Tryz.f6 false true false false) := by
  obtain ⟨places, hx⟩ := exactSums_reads os enc
  refine returnsInHanded_of_row (C := Tryz.checked) (s := Rows.OpenSpec.upto Rows.exactSumsSpec) Tryz.own started (by kernel_rfl) Tryz.func6
    (witness_row_at (enc := enc) (C := Tryz.checked) false (World.doorLaid Tryz.prog 24 os) #[.slice none 0 0, .slice none 0 0] rfl (by kernel_rfl) (by kernel_rfl) (by kernel_rfl) (OpenSpec.preRow_of_cond 8 hx (by kernel_rfl) (fun k hk => by cases hk; kernel_rfl) (by kernel_rfl) (door_met os _))) ?_
  intro W base args ds gs before hval hW _ hcond _ hL _ _
  exact exactSums_contract H enc W base args ds gs before hval hW hL (hcond _ rfl)

theorem exactSums_saidUpto : Rows.ExactSumsUptoSaid :=
  OpenClaim.holds_of_cond 6 Tryz.f6 rfl rfl rfl rfl rfl rfl rfl ⟨rfl, rfl, rfl, rfl, rfl⟩ rfl rfl rfl rfl rfl (by kernel_rfl) Tryz.func6 (by kernel_rfl)
    (of_decide_eq_true (by kernel_rfl)) (by unfold Func.isWrapper; first | (rw [if_pos (by decide +kernel)]; kernel_rfl) | (rw [if_neg (by decide +kernel)]; exact ⟨rfl, rfl⟩))
    (fun os started H enc _ F => by rw [OpenClaim.pre_eq_preRow]; exact exactSums_liftedUpto os started H enc F)
theorem exactSums_plain (f : FuncId) (fn : Func) (hf : Tryz.pinned.checked.prog.funcNamed "examboard/examboardlaw07.ExactSums" = some f) (hfn : Tryz.pinned.checked.prog.funcs[f]? = some fn) :
    false = Tryz.pinned.checked.prog.looks [] ∧ ∀ (j : Nat) t, fn.params[j]? = some t → Tryz.pinned.checked.prog.wantsStandIn t = false := by
  obtain rfl : f = 6 := Option.some.inj ((show Tryz.prog.funcNamed "examboard/examboardlaw07.ExactSums" = some 6 by kernel_rfl).symm.trans hf) |>.symm
  obtain rfl : fn = Tryz.f6 := (Option.some.inj (Tryz.func6.symm.trans hfn)).symm
  refine ⟨by kernel_rfl, fun j t ht => ?_⟩
  rw [Tryz.params6] at ht
  have hm := Array.mem_of_getElem? ht
  simp only [List.mem_toArray, List.mem_cons, List.not_mem_nil, or_false] at hm
  rcases hm with rfl | rfl <;> (show Tryz.prog.wantsStandIn _ = false) <;> kernel_rfl
theorem exactSums_card : Rows.ExactSumsUptoCardSaid :=
  Claim7.holds_tied_plain_at .later [] _ _ _ _ exactSums_saidUpto (fun _ h => by cases h) (by kernel_rfl) (fun _ h => by cases h) exactSumsUpto_row_tie rfl ⟨rfl, rfl⟩ (by kernel_rfl) rfl exactSums_plain (by kernel_rfl)
#print axioms exactSums_card

end Go.Proofs.YtbjgnpgachdlaaaGreatDoor
