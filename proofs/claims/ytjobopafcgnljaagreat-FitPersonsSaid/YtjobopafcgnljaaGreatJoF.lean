import Derived.Test.YtjobopafcgnljaaGreatAl
import Derived.Test.YtjobopafcgnljaaGreatJoE
namespace Go.Proofs.YtjobopafcgnljaaGreat
open Go.RowKit
set_option maxHeartbeats 2000000 in
theorem Upper_ok {N : Nat} (a : Option Addr) (n cap : Nat) (q : Nat → Rat) (L : Nat) (w : World) (hN : N ≤ w.heap.size) (h : Rs N w a n cap q L) (hL : L ≤ 2097152) (hv : valid q n = true) (z : Int) (hz1 : -9223372036854775808 ≤ z) (hz2 : z ≤ 9223372036854775807) (K : Nat) (hKe : min z.toNat n = K) (p : Rat) (hp : upQ q n K = p) :
  Calls Tryz.prog 28 #[.slice a n cap, .int .i64 z] w (RatOk N w p) := by
 obtain ⟨n0, n121, hge, _⟩ := valid_iff.1 hv
 have HV := Lib.hid hv
 have hld : nlen (lcN (deQ q) n) ≤ L * n + 1 := lcN_len (fun i hi => by have := h.lim i hi; unfold rsz at this; unfold deQ; omega)
 have hm4 : L * n ≤ L * 121 := Nat.mul_le_mul_left _ n121
 have hK : K ≤ n := by omega
 obtain ⟨Z, hZ⟩ : ∃ Z : Nat, z.toNat = Z := ⟨_, rfl⟩
 have hmx : max z 0 = (Z : Int) := by omega
 have hmn : min (Z : Int) (n : Int) = (K : Int) := by omega
 have hZ2 : Z ≤ 9223372036854775807 := by omega
 have hp2 : frq (sN (fun i => nmN q n (K + i)) (n - K)) (lcN (deQ q) n) = p := by rw [up_frq hge]; exact hp
 clear hv hp hge hKe hZ
 by_cases hKn : K = n
 ·subst hKn
  rw [Nat.sub_self] at hp2
  have HP := Lib.hid hp2
  have htl : nlen (sN (fun i => nmN q K (K + i)) 0) ≤ 1 := by simp only [sN]; rw [nlen_zero]; omega
  clear hp2
  have hN0 := hN
  have HA := Lib.hid h
  clear h
  have HB := Lib.hid (Below.refl w.heap.size w)
  go_enter Tryz.func28, Tryz.ntmps28
  go_wp2_with fail
  refine calls_name fun W0 hW => ?_
  have hs_W0 : w.heap.size ≤ W0.heap.size := by rw [← hW]; exact OmT
  have HL_W0 := Lib.hid (show Below w.heap.size w W0 by rw [← hW]; exact BlA)
  have k_R_0 : W0.cell? ⟨w.heap.size, 0, none⟩ = some (.bool false) := by rw [← hW]; exact CeA
  have k_R_1 : W0.cell? ⟨w.heap.size, 1, none⟩ = some (.slice none 0 0) := by rw [← hW]; exact CeA
  have k_R_2 : W0.cell? ⟨w.heap.size, 2, none⟩ = some (.slice none 0 0) := by rw [← hW]; exact CeA
  have f_R : ∀ o, W0.frozen? ⟨w.heap.size, o, none⟩ = false := by intro o; rw [← hW]; exact CeA
  have HX_R := Lib.hid (show Bn W0 (w.heap.size) by rw [← hW]; exact KpA)
  replace HB := Lib.hid (show Below w.heap.size w W0 by rw [← hW]; exact BlA)
  replace hN : N ≤ W0.heap.size := by rw [← hW]; exact OmT
  have hs0 : w.heap.size ≤ W0.heap.size := by rw [← hW]; exact OmT
  have hl_R : w.heap.size < W0.heap.size := by rw [← hW]; exact OmT
  replace HA := Lib.hid (HA.out.below HL_W0.out)
  clear HL_W0
  clear hW
  refine (num_yes (N := N) _ _ _ q L _ hN HA.out hL HV.out).mono ?_
  rintro e wa ⟨b, r, c, rfl, hb1, hb2, hl, hn, hb⟩
  have hs_wa : W0.heap.size ≤ wa.heap.size := hb.size
  replace k_R_0 : wa.cell? ⟨w.heap.size, 0, none⟩ = some (.bool false) := (hb.cell (p := ⟨w.heap.size, 0, none⟩) hl_R).trans k_R_0
  replace k_R_1 : wa.cell? ⟨w.heap.size, 1, none⟩ = some (.slice none 0 0) := (hb.cell (p := ⟨w.heap.size, 1, none⟩) hl_R).trans k_R_1
  replace k_R_2 : wa.cell? ⟨w.heap.size, 2, none⟩ = some (.slice none 0 0) := (hb.cell (p := ⟨w.heap.size, 2, none⟩) hl_R).trans k_R_2
  replace f_R : ∀ o, wa.frozen? ⟨w.heap.size, o, none⟩ = false := fun o => (hb.frozen (p := ⟨w.heap.size, o, none⟩) hl_R).trans (f_R o)
  replace HX_R := Lib.hid (HX_R.out.below hb)
  replace HB := Lib.hid (HB.out.trans (hb.mono hs0))
  replace hN : N ≤ wa.heap.size := Nat.le_trans hN hb.size
  replace hs0 : w.heap.size ≤ wa.heap.size := Nat.le_trans hs0 hb.size
  replace hl_R : w.heap.size < wa.heap.size := Nat.lt_of_lt_of_le hl_R hb.size
  replace HA := Lib.hid (HA.out.below hb)
  clear hb
  have HD := Lib.hid hn
  clear hn
  have HN := Lib.hid hl
  clear hl
  have HNp := Lib.hid (show Ns N wa (some ⟨b, 0, none⟩) 0 0 (fun i => nmN q K (K + i)) (L * 123 + 2) from ⟨Nat.le_refl _, Nat.zero_le _, fun h => by omega⟩)
  go_wp2_with fail
  refine (total_any (N := N) _ 0 _ (fun i => nmN q K (K + i)) (L * 123 + 2) _ hN HNp.out (by omega) (by omega)).mono ?_
  rintro e wb ⟨rt, ct, rfl, hn, hb⟩
  have hs_wb : wa.heap.size ≤ wb.heap.size := hb.size
  replace k_R_0 : wb.cell? ⟨w.heap.size, 0, none⟩ = some (.bool false) := (hb.cell (p := ⟨w.heap.size, 0, none⟩) hl_R).trans k_R_0
  replace k_R_1 : wb.cell? ⟨w.heap.size, 1, none⟩ = some (.slice none 0 0) := (hb.cell (p := ⟨w.heap.size, 1, none⟩) hl_R).trans k_R_1
  replace k_R_2 : wb.cell? ⟨w.heap.size, 2, none⟩ = some (.slice none 0 0) := (hb.cell (p := ⟨w.heap.size, 2, none⟩) hl_R).trans k_R_2
  replace f_R : ∀ o, wb.frozen? ⟨w.heap.size, o, none⟩ = false := fun o => (hb.frozen (p := ⟨w.heap.size, o, none⟩) hl_R).trans (f_R o)
  replace HX_R := Lib.hid (HX_R.out.below hb)
  replace HD := Lib.hid (HD.out.below hb)
  replace HB := Lib.hid (HB.out.trans (hb.mono hs0))
  replace hN : N ≤ wb.heap.size := Nat.le_trans hN hb.size
  replace hs0 : w.heap.size ≤ wb.heap.size := Nat.le_trans hs0 hb.size
  replace hl_R : w.heap.size < wb.heap.size := Nat.lt_of_lt_of_le hl_R hb.size
  replace HN := Lib.hid (HN.out.below hb)
  replace HA := Lib.hid (HA.out.below hb)
  replace HNp := Lib.hid (HNp.out.below hb)
  clear hb
  have HT := Lib.hid hn
  clear hn
  go_wp2_with fail
  refine (fraction_any (N := N) _ _ _ _ (sN (fun i => nmN q K (K + i)) 0) _ _ (lcN (deQ q) K) _ hN HT.out HD.out (by omega) (by omega) p HP.out).mono ?_
  rintro e wc ⟨ru, cu, ru2, cu2, rfl, hn, hn', hb⟩
  have hs_wc : wb.heap.size ≤ wc.heap.size := hb.size
  replace k_R_0 : wc.cell? ⟨w.heap.size, 0, none⟩ = some (.bool false) := (hb.cell (p := ⟨w.heap.size, 0, none⟩) hl_R).trans k_R_0
  replace k_R_1 : wc.cell? ⟨w.heap.size, 1, none⟩ = some (.slice none 0 0) := (hb.cell (p := ⟨w.heap.size, 1, none⟩) hl_R).trans k_R_1
  replace k_R_2 : wc.cell? ⟨w.heap.size, 2, none⟩ = some (.slice none 0 0) := (hb.cell (p := ⟨w.heap.size, 2, none⟩) hl_R).trans k_R_2
  replace f_R : ∀ o, wc.frozen? ⟨w.heap.size, o, none⟩ = false := fun o => (hb.frozen (p := ⟨w.heap.size, o, none⟩) hl_R).trans (f_R o)
  replace HX_R := Lib.hid (HX_R.out.below hb)
  replace HD := Lib.hid (HD.out.below hb)
  replace HT := Lib.hid (HT.out.below hb)
  replace HB := Lib.hid (HB.out.trans (hb.mono hs0))
  replace hN : N ≤ wc.heap.size := Nat.le_trans hN hb.size
  replace hs0 : w.heap.size ≤ wc.heap.size := Nat.le_trans hs0 hb.size
  replace hl_R : w.heap.size < wc.heap.size := Nat.lt_of_lt_of_le hl_R hb.size
  replace HN := Lib.hid (HN.out.below hb)
  replace HA := Lib.hid (HA.out.below hb)
  replace HNp := Lib.hid (HNp.out.below hb)
  clear hb
  have HP1 := Lib.hid hn
  clear hn
  have HQ1 := Lib.hid hn'
  clear hn'
  go_wp2_with fail
  refine bodyPost_ret (v := .tuple #[.agg #[.bool (decide ((p).num < 0)), .slice ru (nlen (p).num.natAbs) cu, .slice ru2 (nlen (p).den) cu2], .int .i64 0]) (by simp [results, Tryz.results28, go_sem, k_R_0, k_R_1, k_R_2]) rfl ⟨_, _, _, _, rfl, HP1.out.keep ?_, HQ1.out.keep ?_, ?_⟩
  all_goals exact KBA
 ·obtain ⟨J, hJ⟩ : ∃ J, n - K = J := ⟨_, rfl⟩
  have HJ := Lib.hid hJ
  rw [hJ] at hp2
  have HP := Lib.hid hp2
  have hlt : K < n := by omega
  have htl : nlen (sN (fun i => nmN q n (K + i)) J) ≤ L * 122 + 2 := nlen_sN _ _ _ (fun i hi => nm_len h hm4 hld (K + i) (by omega)) (by omega)
  have hJ2 : J ≤ 121 := by omega
  clear hp2 hJ
  have hN0 := hN
  have HA := Lib.hid h
  clear h
  have HB := Lib.hid (Below.refl w.heap.size w)
  go_enter Tryz.func28, Tryz.ntmps28
  go_wp2_with fail
  refine calls_name fun W0 hW => ?_
  have hs_W0 : w.heap.size ≤ W0.heap.size := by rw [← hW]; exact OmT
  have HL_W0 := Lib.hid (show Below w.heap.size w W0 by rw [← hW]; exact BlA)
  have k_R_0 : W0.cell? ⟨w.heap.size, 0, none⟩ = some (.bool false) := by rw [← hW]; exact CeA
  have k_R_1 : W0.cell? ⟨w.heap.size, 1, none⟩ = some (.slice none 0 0) := by rw [← hW]; exact CeA
  have k_R_2 : W0.cell? ⟨w.heap.size, 2, none⟩ = some (.slice none 0 0) := by rw [← hW]; exact CeA
  have f_R : ∀ o, W0.frozen? ⟨w.heap.size, o, none⟩ = false := by intro o; rw [← hW]; exact CeA
  have HX_R := Lib.hid (show Bn W0 (w.heap.size) by rw [← hW]; exact KpA)
  replace HB := Lib.hid (show Below w.heap.size w W0 by rw [← hW]; exact BlA)
  replace hN : N ≤ W0.heap.size := by rw [← hW]; exact OmT
  have hs0 : w.heap.size ≤ W0.heap.size := by rw [← hW]; exact OmT
  have hl_R : w.heap.size < W0.heap.size := by rw [← hW]; exact OmT
  replace HA := Lib.hid (HA.out.below HL_W0.out)
  clear HL_W0
  clear hW
  refine (num_yes (N := N) _ _ _ q L _ hN HA.out hL HV.out).mono ?_
  rintro e wa ⟨b, r, c, rfl, hb1, hb2, hl, hn, hb⟩
  have hs_wa : W0.heap.size ≤ wa.heap.size := hb.size
  replace k_R_0 : wa.cell? ⟨w.heap.size, 0, none⟩ = some (.bool false) := (hb.cell (p := ⟨w.heap.size, 0, none⟩) hl_R).trans k_R_0
  replace k_R_1 : wa.cell? ⟨w.heap.size, 1, none⟩ = some (.slice none 0 0) := (hb.cell (p := ⟨w.heap.size, 1, none⟩) hl_R).trans k_R_1
  replace k_R_2 : wa.cell? ⟨w.heap.size, 2, none⟩ = some (.slice none 0 0) := (hb.cell (p := ⟨w.heap.size, 2, none⟩) hl_R).trans k_R_2
  replace f_R : ∀ o, wa.frozen? ⟨w.heap.size, o, none⟩ = false := fun o => (hb.frozen (p := ⟨w.heap.size, o, none⟩) hl_R).trans (f_R o)
  replace HX_R := Lib.hid (HX_R.out.below hb)
  replace HB := Lib.hid (HB.out.trans (hb.mono hs0))
  replace hN : N ≤ wa.heap.size := Nat.le_trans hN hb.size
  replace hs0 : w.heap.size ≤ wa.heap.size := Nat.le_trans hs0 hb.size
  replace hl_R : w.heap.size < wa.heap.size := Nat.lt_of_lt_of_le hl_R hb.size
  replace HA := Lib.hid (HA.out.below hb)
  clear hb
  have HD := Lib.hid hn
  clear hn
  have HN := Lib.hid hl
  clear hl
  have HNp0 := Lib.hid (Ns.part (HN.out.ns (by unfold maxLen; omega)) hK)
  have HNp := Lib.hid (show Ns N wa (some ⟨b, K, none⟩) J J (fun i => nmN q n (K + i)) (L * 123 + 2) by have := HNp0.out; rwa [Nat.zero_add, HJ.out] at this)
  clear HNp0
  go_wp2_with fail
  rw [HJ.out]
  refine (total_any (N := N) _ J _ (fun i => nmN q n (K + i)) (L * 123 + 2) _ hN HNp.out (by omega) (by omega)).mono ?_
  rintro e wb ⟨rt, ct, rfl, hn, hb⟩
  have hs_wb : wa.heap.size ≤ wb.heap.size := hb.size
  replace k_R_0 : wb.cell? ⟨w.heap.size, 0, none⟩ = some (.bool false) := (hb.cell (p := ⟨w.heap.size, 0, none⟩) hl_R).trans k_R_0
  replace k_R_1 : wb.cell? ⟨w.heap.size, 1, none⟩ = some (.slice none 0 0) := (hb.cell (p := ⟨w.heap.size, 1, none⟩) hl_R).trans k_R_1
  replace k_R_2 : wb.cell? ⟨w.heap.size, 2, none⟩ = some (.slice none 0 0) := (hb.cell (p := ⟨w.heap.size, 2, none⟩) hl_R).trans k_R_2
  replace f_R : ∀ o, wb.frozen? ⟨w.heap.size, o, none⟩ = false := fun o => (hb.frozen (p := ⟨w.heap.size, o, none⟩) hl_R).trans (f_R o)
  replace HX_R := Lib.hid (HX_R.out.below hb)
  replace HD := Lib.hid (HD.out.below hb)
  replace HB := Lib.hid (HB.out.trans (hb.mono hs0))
  replace hN : N ≤ wb.heap.size := Nat.le_trans hN hb.size
  replace hs0 : w.heap.size ≤ wb.heap.size := Nat.le_trans hs0 hb.size
  replace hl_R : w.heap.size < wb.heap.size := Nat.lt_of_lt_of_le hl_R hb.size
  replace HN := Lib.hid (HN.out.below hb)
  replace HA := Lib.hid (HA.out.below hb)
  replace HNp := Lib.hid (HNp.out.below hb)
  clear hb
  have HT := Lib.hid hn
  clear hn
  go_wp2_with fail
  refine (fraction_any (N := N) _ _ _ _ (sN (fun i => nmN q n (K + i)) J) _ _ (lcN (deQ q) n) _ hN HT.out HD.out (by omega) (by omega) p HP.out).mono ?_
  rintro e wc ⟨ru, cu, ru2, cu2, rfl, hn, hn', hb⟩
  have hs_wc : wb.heap.size ≤ wc.heap.size := hb.size
  replace k_R_0 : wc.cell? ⟨w.heap.size, 0, none⟩ = some (.bool false) := (hb.cell (p := ⟨w.heap.size, 0, none⟩) hl_R).trans k_R_0
  replace k_R_1 : wc.cell? ⟨w.heap.size, 1, none⟩ = some (.slice none 0 0) := (hb.cell (p := ⟨w.heap.size, 1, none⟩) hl_R).trans k_R_1
  replace k_R_2 : wc.cell? ⟨w.heap.size, 2, none⟩ = some (.slice none 0 0) := (hb.cell (p := ⟨w.heap.size, 2, none⟩) hl_R).trans k_R_2
  replace f_R : ∀ o, wc.frozen? ⟨w.heap.size, o, none⟩ = false := fun o => (hb.frozen (p := ⟨w.heap.size, o, none⟩) hl_R).trans (f_R o)
  replace HX_R := Lib.hid (HX_R.out.below hb)
  replace HD := Lib.hid (HD.out.below hb)
  replace HT := Lib.hid (HT.out.below hb)
  replace HB := Lib.hid (HB.out.trans (hb.mono hs0))
  replace hN : N ≤ wc.heap.size := Nat.le_trans hN hb.size
  replace hs0 : w.heap.size ≤ wc.heap.size := Nat.le_trans hs0 hb.size
  replace hl_R : w.heap.size < wc.heap.size := Nat.lt_of_lt_of_le hl_R hb.size
  replace HN := Lib.hid (HN.out.below hb)
  replace HA := Lib.hid (HA.out.below hb)
  replace HNp := Lib.hid (HNp.out.below hb)
  clear hb
  have HP1 := Lib.hid hn
  clear hn
  have HQ1 := Lib.hid hn'
  clear hn'
  go_wp2_with fail
  refine bodyPost_ret (v := .tuple #[.agg #[.bool (decide ((p).num < 0)), .slice ru (nlen (p).num.natAbs) cu, .slice ru2 (nlen (p).den) cu2], .int .i64 0]) (by simp [results, Tryz.results28, go_sem, k_R_0, k_R_1, k_R_2]) rfl ⟨_, _, _, _, rfl, HP1.out.keep ?_, HQ1.out.keep ?_, ?_⟩
  all_goals exact KBA
end Go.Proofs.YtjobopafcgnljaaGreat
namespace Go.Proofs.YtjobopafcgnljaaGreat
open Go.RowKit
end Go.Proofs.YtjobopafcgnljaaGreat
