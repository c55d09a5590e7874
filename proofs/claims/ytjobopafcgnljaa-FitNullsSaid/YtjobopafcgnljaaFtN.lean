import Derived.Test.YtjobopafcgnljaaFtA
namespace Go.Proofs.Ytjobopafcgnljaa
open Go.RowKit
def Ru (N : Nat) (w : World) (a : Option Addr) (n cap : Nat) (q : Nat → Rat) (ln ld : Nat → Nat) : Prop :=
 n ≤ cap ∧ cap ≤ maxLen ∧ (0 < n → ∃ b off, a = some ⟨b, off, none⟩ ∧ ∀ i, i < n → ∃ s ra rc da dc mn md, w.cell? ⟨b, off + i * 3, none⟩ = some (.bool s) ∧ w.cell? ⟨b, off + i * 3 + 1, none⟩ = some (.slice ra (ln i) rc) ∧ w.cell? ⟨b, off + i * 3 + 2, none⟩ = some (.slice da (ld i) dc) ∧ Nt N w ra (ln i) rc mn ∧ Nt N w da (ld i) dc md ∧ mkRat (zI s mn) md = q i)
theorem Ru.rs {N : Nat} {w : World} {a : Option Addr} {n cap : Nat} {q : Nat → Rat} {ln ld : Nat → Nat} (h : Ru N w a n cap q ln ld) (L : Nat) (h1 : 1 ≤ L) (hl : ∀ i, i < n → ln i ≤ L ∧ ld i ≤ L) : Rs N w a n cap q L := by
 obtain ⟨h0, hm, hc⟩ := h
 refine ⟨h0, hm, fun hn => ?_⟩
 obtain ⟨b, off, e, ho⟩ := hc hn
 refine ⟨b, off, e, fun i hi => ?_⟩
 obtain ⟨s, ra, rc, da, dc, mn, md, g0, g1, g2, n1, n2, hq⟩ := ho i hi
 exact ⟨s, ra, _, rc, da, _, dc, g0, g1, g2, h1, (hl i hi).1, (hl i hi).2, mn, md, n1, n2, hq⟩
set_option maxHeartbeats 2000000 in
set_option maxRecDepth 100000 in
theorem null_bad {N : Nat} (a : Option Addr) (n cap : Nat) (q : Nat → Rat) (L : Nat) (w : World) (hN : N ≤ w.heap.size) (h : Rs N w a n cap q L) (hL : L ≤ 2097152) (c : Int) (hc : chkF q n = c) (h0 : c ≠ 0) :
  Calls Try.prog 10 #[.slice a n cap] w (ErrPost w c) := by
 have HC := Lib.hid hc
 have z0 : (c == 0) = false := by simpa using h0
 clear hc
 have HA := Lib.hid h
 have bc := h.1
 have bm := h.2.1
 unfold maxLen at bm
 clear h
 have hN0 := hN
 have HB := Lib.hid (Below.refl w.heap.size w)
 go_enter Try.func10, Try.ntmps10
 go_wp2_with fail
 refine calls_name fun W0 hW => ?_
 have hs_W0 : w.heap.size ≤ W0.heap.size := by rw [← hW]; (first | omega | (simp; done) | (simp; omega))
 have HL_W0 := Lib.hid (show Below w.heap.size w W0 by rw [← hW]; exact BlA)
 replace HB := Lib.hid (show Below w.heap.size w W0 by rw [← hW]; exact BlA)
 replace hN : N ≤ W0.heap.size := by rw [← hW]; (first | omega | (simp; done) | (simp; omega))
 have hs0 : w.heap.size ≤ W0.heap.size := by rw [← hW]; (first | omega | (simp; done) | (simp; omega))
 replace HA := Lib.hid (HA.out.below HL_W0.out)
 clear HL_W0
 clear hW
 refine (fcheck_any (N := N) _ n _ q L _ hN HA.out hL c HC.out).mono ?_
 rintro e wa ⟨rfl, hb⟩
 have hs_wa : W0.heap.size ≤ wa.heap.size := hb.size
 replace HB := Lib.hid (HB.out.trans (hb.mono hs0))
 replace hN : N ≤ wa.heap.size := Nat.le_trans hN hb.size
 replace hs0 : w.heap.size ≤ wa.heap.size := Nat.le_trans hs0 hb.size
 replace HA := Lib.hid (HA.out.below hb)
 clear hb
 go_wp2_with fail
 go_ret2
 exact ⟨rfl, HB.out⟩
set_option maxHeartbeats 2000000 in
set_option maxRecDepth 100000 in
theorem null_long (a : Option Addr) (n cap : Nat) (w : World) (bc : n ≤ cap) (bm : cap ≤ maxLen) (hn : 20 < n) :
  Calls Try.prog 10 #[.slice a n cap] w (ErrPost w 5) := by
 have HB := Lib.hid (Below.refl w.heap.size w)
 go_enter Try.func10, Try.ntmps10
 go_wp2_with fail
 refine calls_name fun W0 hW => ?_
 have hs_W0 : w.heap.size ≤ W0.heap.size := by rw [← hW]; (first | omega | (simp; done) | (simp; omega))
 replace HB := Lib.hid (show Below w.heap.size w W0 by rw [← hW]; exact BlA)
 have hs0 : w.heap.size ≤ W0.heap.size := by rw [← hW]; (first | omega | (simp; done) | (simp; omega))
 clear hW
 refine (fcheck_long _ n _ _ bc bm hn).mono ?_
 rintro e wa ⟨rfl, hb⟩
 have hs_wa : W0.heap.size ≤ wa.heap.size := hb.size
 replace HB := Lib.hid (HB.out.trans (hb.mono hs0))
 replace hs0 : w.heap.size ≤ wa.heap.size := Nat.le_trans hs0 hb.size
 clear hb
 go_wp2_with fail
 go_ret2
 exact ⟨rfl, HB.out⟩
end Go.Proofs.Ytjobopafcgnljaa
