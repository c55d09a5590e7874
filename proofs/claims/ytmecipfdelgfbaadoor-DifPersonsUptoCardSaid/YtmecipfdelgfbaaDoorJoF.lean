/- Contracts of exact.Upper, Lower, Both, Convolve. Contracts of exact.Both, Convolve. -/
import Derived.Test.YtmecipfdelgfbaaDoorAl
import Derived.Test.YtmecipfdelgfbaaDoorJoE
namespace Go.Proofs.YtmecipfdelgfbaaDoor
open Go.RowKit

end Go.Proofs.YtmecipfdelgfbaaDoor

namespace Go.Proofs.YtmecipfdelgfbaaDoor
open Go.RowKit

theorem cmp_b {N : Nat} (a b : Option Addr) (na ca ma nb cb mb : Nat) (w : World) (ha : Nt N w a na ca ma) (hb : Nt N w b nb cb mb) (x : Int) (hx : cmpN ma mb = x) :
    Calls Tryd.prog 54 #[.slice a na ca, .slice b nb cb] w fun e w' => e = .returned (.int .i64 x) ∧ Below w.heap.size w w' := by
  refine (cmp_any (N := N) a b na ca ma nb cb mb w ha hb).mono ?_
  rintro e w' ⟨rfl, nq, rfl⟩
  exact ⟨by rw [hx], bel_drewN _ _ _⟩
theorem cmpN_le (a b : Nat) : decide (cmpN a b ≤ 0) = decide (a ≤ b) := by
  unfold cmpN
  by_cases h1 : a < b
  · rw [if_pos h1, decide_eq_true (by omega), decide_eq_true (by omega)]
  · rw [if_neg h1]
    by_cases h2 : b < a
    · rw [if_pos h2, decide_eq_false (by omega), decide_eq_false (by omega)]
    · rw [if_neg h2, decide_eq_true (by omega), decide_eq_true (by omega)]
theorem frq_zero (d : Nat) : frq 0 d = 0 := by unfold frq; simp

set_option maxHeartbeats 2000000 in
theorem Both_out {N : Nat} (a : Option Addr) (n cap : Nat) (q : Nat → Rat) (L : Nat) (w : World) (hN : N ≤ w.heap.size) (h : Rs N w a n cap q L) (hL : L ≤ 2097152) (hv : valid q n = true) (z : Int) (hz : z < 0 ∨ (n : Int) ≤ z) (p : Rat) (hp : 0 = p) :
    Calls Tryd.prog 29 #[.slice a n cap, .int .i64 z] w (RatOk N w p) := by
  obtain ⟨n0, n121, hge, _⟩ := valid_iff.1 hv
  have HV := Lib.hid hv
  have hld : nlen (lcN (deQ q) n) ≤ L * n + 1 := lcN_len (fun i hi => by have := h.lim i hi; unfold rsz at this; unfold deQ; omega)
  have hm4 : L * n ≤ L * 121 := Nat.mul_le_mul_left _ n121
  have HP := Lib.hid (show frq 0 (lcN (deQ q) n) = p by rw [frq_zero]; exact hp)
  clear hv hp hge
  by_cases h0 : z < 0
  · have d0 : decide (0 ≤ z) = false := decide_eq_false (by omega)
    clear hz
    have hN0 := hN
    have HA := Lib.hid h
    clear h
    have HB := Lib.hid (Below.refl w.heap.size w)
    go_enter Tryd.func29, Tryd.ntmps29
    go_wp2_with fail
    refine calls_name fun W0 hW => ?_
    have hs_W0 : w.heap.size ≤ W0.heap.size := by rw [← hW]; exact OmT
    have HL_W0 := Lib.hid (show Below w.heap.size w W0 by rw [← hW]; exact BlA)
    have k_R_0 : W0.cell? ⟨w.heap.size, 0, none⟩ = some (.bool false) := by rw [← hW]; exact CeA
    have k_R_1 : W0.cell? ⟨w.heap.size, 1, none⟩ = some (.slice none 0 0) := by rw [← hW]; exact CeA
    have k_R_2 : W0.cell? ⟨w.heap.size, 2, none⟩ = some (.slice none 0 0) := by rw [← hW]; exact CeA
    have f_R : ∀ o, W0.frozen? ⟨w.heap.size, o, none⟩ = false := by intro o; rw [← hW]; exact CeA
    have HX_R := Lib.hid (show Bn W0 (w.heap.size) by rw [← hW]; exact KpA)
    replace HB := Lib.hid (show Below w.heap.size w W0 by rw [← hW]; exact BlA)
    replace hN : N ≤ W0.heap.size := by rw [← hW]; exact OmT
    have hs0 : w.heap.size ≤ W0.heap.size := by rw [← hW]; exact OmT
    have hl_R : w.heap.size < W0.heap.size := by rw [← hW]; exact OmT
    replace HA := Lib.hid (HA.out.below HL_W0.out)
    clear HL_W0
    clear hW
    refine (num_yes (N := N) _ _ _ q L _ hN HA.out hL HV.out).mono ?_
    rintro e wa ⟨b, r, c, rfl, hb1, hb2, hl, hn, hb⟩
    have hs_wa : W0.heap.size ≤ wa.heap.size := hb.size
    replace k_R_0 : wa.cell? ⟨w.heap.size, 0, none⟩ = some (.bool false) := (hb.cell (p := ⟨w.heap.size, 0, none⟩) hl_R).trans k_R_0
    replace k_R_1 : wa.cell? ⟨w.heap.size, 1, none⟩ = some (.slice none 0 0) := (hb.cell (p := ⟨w.heap.size, 1, none⟩) hl_R).trans k_R_1
    replace k_R_2 : wa.cell? ⟨w.heap.size, 2, none⟩ = some (.slice none 0 0) := (hb.cell (p := ⟨w.heap.size, 2, none⟩) hl_R).trans k_R_2
    replace f_R : ∀ o, wa.frozen? ⟨w.heap.size, o, none⟩ = false := fun o => (hb.frozen (p := ⟨w.heap.size, o, none⟩) hl_R).trans (f_R o)
    replace HX_R := Lib.hid (HX_R.out.below hb)
    replace HB := Lib.hid (HB.out.trans (hb.mono hs0))
    replace hN : N ≤ wa.heap.size := Nat.le_trans hN hb.size
    replace hs0 : w.heap.size ≤ wa.heap.size := Nat.le_trans hs0 hb.size
    replace hl_R : w.heap.size < wa.heap.size := Nat.lt_of_lt_of_le hl_R hb.size
    replace HA := Lib.hid (HA.out.below hb)
    clear hb
    have HD := Lib.hid hn
    clear hn
    have HN := Lib.hid hl
    clear hl
    have HZ := Lib.hid (Nt.zero N wa)
    go_wp2_with fail
    refine (fraction_any (N := N) none _ _ _ 0 _ _ (lcN (deQ q) n) _ hN HZ.out HD.out (by omega) (by omega) p HP.out).mono ?_
    rintro e wc ⟨ru, cu, ru2, cu2, rfl, hn, hn', hb⟩
    have hs_wc : wa.heap.size ≤ wc.heap.size := hb.size
    replace k_R_0 : wc.cell? ⟨w.heap.size, 0, none⟩ = some (.bool false) := (hb.cell (p := ⟨w.heap.size, 0, none⟩) hl_R).trans k_R_0
    replace k_R_1 : wc.cell? ⟨w.heap.size, 1, none⟩ = some (.slice none 0 0) := (hb.cell (p := ⟨w.heap.size, 1, none⟩) hl_R).trans k_R_1
    replace k_R_2 : wc.cell? ⟨w.heap.size, 2, none⟩ = some (.slice none 0 0) := (hb.cell (p := ⟨w.heap.size, 2, none⟩) hl_R).trans k_R_2
    replace f_R : ∀ o, wc.frozen? ⟨w.heap.size, o, none⟩ = false := fun o => (hb.frozen (p := ⟨w.heap.size, o, none⟩) hl_R).trans (f_R o)
    replace HX_R := Lib.hid (HX_R.out.below hb)
    replace HD := Lib.hid (HD.out.below hb)
    replace HZ := Lib.hid (HZ.out.below hb)
    replace HB := Lib.hid (HB.out.trans (hb.mono hs0))
    replace hN : N ≤ wc.heap.size := Nat.le_trans hN hb.size
    replace hs0 : w.heap.size ≤ wc.heap.size := Nat.le_trans hs0 hb.size
    replace hl_R : w.heap.size < wc.heap.size := Nat.lt_of_lt_of_le hl_R hb.size
    replace HN := Lib.hid (HN.out.below hb)
    replace HA := Lib.hid (HA.out.below hb)
    clear hb
    have HP1 := Lib.hid hn
    clear hn
    have HQ1 := Lib.hid hn'
    clear hn'
    go_wp2_with fail
    refine bodyPost_ret (v := .tuple #[.agg #[.bool (decide ((p).num < 0)), .slice ru (nlen (p).num.natAbs) cu, .slice ru2 (nlen (p).den) cu2], .int .i64 0]) (by simp [results, Tryd.results29, go_sem, k_R_0, k_R_1, k_R_2]) rfl ⟨_, _, _, _, rfl, HP1.out.keep ?_, HQ1.out.keep ?_, ?_⟩
    all_goals exact KBA
  · have d0 : decide (0 ≤ z) = true := decide_eq_true (by omega)
    have d1 : decide (z < (n : Int)) = false := decide_eq_false (by omega)
    clear hz
    have hN0 := hN
    have HA := Lib.hid h
    clear h
    have HB := Lib.hid (Below.refl w.heap.size w)
    go_enter Tryd.func29, Tryd.ntmps29
    go_wp2_with fail
    refine calls_name fun W0 hW => ?_
    have hs_W0 : w.heap.size ≤ W0.heap.size := by rw [← hW]; exact OmT
    have HL_W0 := Lib.hid (show Below w.heap.size w W0 by rw [← hW]; exact BlA)
    have k_R_0 : W0.cell? ⟨w.heap.size, 0, none⟩ = some (.bool false) := by rw [← hW]; exact CeA
    have k_R_1 : W0.cell? ⟨w.heap.size, 1, none⟩ = some (.slice none 0 0) := by rw [← hW]; exact CeA
    have k_R_2 : W0.cell? ⟨w.heap.size, 2, none⟩ = some (.slice none 0 0) := by rw [← hW]; exact CeA
    have f_R : ∀ o, W0.frozen? ⟨w.heap.size, o, none⟩ = false := by intro o; rw [← hW]; exact CeA
    have HX_R := Lib.hid (show Bn W0 (w.heap.size) by rw [← hW]; exact KpA)
    replace HB := Lib.hid (show Below w.heap.size w W0 by rw [← hW]; exact BlA)
    replace hN : N ≤ W0.heap.size := by rw [← hW]; exact OmT
    have hs0 : w.heap.size ≤ W0.heap.size := by rw [← hW]; exact OmT
    have hl_R : w.heap.size < W0.heap.size := by rw [← hW]; exact OmT
    replace HA := Lib.hid (HA.out.below HL_W0.out)
    clear HL_W0
    clear hW
    refine (num_yes (N := N) _ _ _ q L _ hN HA.out hL HV.out).mono ?_
    rintro e wa ⟨b, r, c, rfl, hb1, hb2, hl, hn, hb⟩
    have hs_wa : W0.heap.size ≤ wa.heap.size := hb.size
    replace k_R_0 : wa.cell? ⟨w.heap.size, 0, none⟩ = some (.bool false) := (hb.cell (p := ⟨w.heap.size, 0, none⟩) hl_R).trans k_R_0
    replace k_R_1 : wa.cell? ⟨w.heap.size, 1, none⟩ = some (.slice none 0 0) := (hb.cell (p := ⟨w.heap.size, 1, none⟩) hl_R).trans k_R_1
    replace k_R_2 : wa.cell? ⟨w.heap.size, 2, none⟩ = some (.slice none 0 0) := (hb.cell (p := ⟨w.heap.size, 2, none⟩) hl_R).trans k_R_2
    replace f_R : ∀ o, wa.frozen? ⟨w.heap.size, o, none⟩ = false := fun o => (hb.frozen (p := ⟨w.heap.size, o, none⟩) hl_R).trans (f_R o)
    replace HX_R := Lib.hid (HX_R.out.below hb)
    replace HB := Lib.hid (HB.out.trans (hb.mono hs0))
    replace hN : N ≤ wa.heap.size := Nat.le_trans hN hb.size
    replace hs0 : w.heap.size ≤ wa.heap.size := Nat.le_trans hs0 hb.size
    replace hl_R : w.heap.size < wa.heap.size := Nat.lt_of_lt_of_le hl_R hb.size
    replace HA := Lib.hid (HA.out.below hb)
    clear hb
    have HD := Lib.hid hn
    clear hn
    have HN := Lib.hid hl
    clear hl
    have HZ := Lib.hid (Nt.zero N wa)
    go_wp2_with fail
    refine (fraction_any (N := N) none _ _ _ 0 _ _ (lcN (deQ q) n) _ hN HZ.out HD.out (by omega) (by omega) p HP.out).mono ?_
    rintro e wc ⟨ru, cu, ru2, cu2, rfl, hn, hn', hb⟩
    have hs_wc : wa.heap.size ≤ wc.heap.size := hb.size
    replace k_R_0 : wc.cell? ⟨w.heap.size, 0, none⟩ = some (.bool false) := (hb.cell (p := ⟨w.heap.size, 0, none⟩) hl_R).trans k_R_0
    replace k_R_1 : wc.cell? ⟨w.heap.size, 1, none⟩ = some (.slice none 0 0) := (hb.cell (p := ⟨w.heap.size, 1, none⟩) hl_R).trans k_R_1
    replace k_R_2 : wc.cell? ⟨w.heap.size, 2, none⟩ = some (.slice none 0 0) := (hb.cell (p := ⟨w.heap.size, 2, none⟩) hl_R).trans k_R_2
    replace f_R : ∀ o, wc.frozen? ⟨w.heap.size, o, none⟩ = false := fun o => (hb.frozen (p := ⟨w.heap.size, o, none⟩) hl_R).trans (f_R o)
    replace HX_R := Lib.hid (HX_R.out.below hb)
    replace HD := Lib.hid (HD.out.below hb)
    replace HZ := Lib.hid (HZ.out.below hb)
    replace HB := Lib.hid (HB.out.trans (hb.mono hs0))
    replace hN : N ≤ wc.heap.size := Nat.le_trans hN hb.size
    replace hs0 : w.heap.size ≤ wc.heap.size := Nat.le_trans hs0 hb.size
    replace hl_R : w.heap.size < wc.heap.size := Nat.lt_of_lt_of_le hl_R hb.size
    replace HN := Lib.hid (HN.out.below hb)
    replace HA := Lib.hid (HA.out.below hb)
    clear hb
    have HP1 := Lib.hid hn
    clear hn
    have HQ1 := Lib.hid hn'
    clear hn'
    go_wp2_with fail
    refine bodyPost_ret (v := .tuple #[.agg #[.bool (decide ((p).num < 0)), .slice ru (nlen (p).num.natAbs) cu, .slice ru2 (nlen (p).den) cu2], .int .i64 0]) (by simp [results, Tryd.results29, go_sem, k_R_0, k_R_1, k_R_2]) rfl ⟨_, _, _, _, rfl, HP1.out.keep ?_, HQ1.out.keep ?_, ?_⟩
    all_goals exact KBA

set_option maxHeartbeats 4000000 in
theorem Both_in {N : Nat} (a : Option Addr) (n cap : Nat) (q : Nat → Rat) (L : Nat) (w : World) (hN : N ≤ w.heap.size) (h : Rs N w a n cap q L) (hL : L ≤ 2097152) (hv : valid q n = true) (k : Nat) (hkn : k < n) (p : Rat) (hp : bothQ q n k = p) :
    Calls Tryd.prog 29 #[.slice a n cap, .int .i64 k] w (RatOk N w p) := by
  obtain ⟨n0, n121, hge, _⟩ := valid_iff.1 hv
  have HV := Lib.hid hv
  have hld : nlen (lcN (deQ q) n) ≤ L * n + 1 := lcN_len (fun i hi => by have := h.lim i hi; unfold rsz at this; unfold deQ; omega)
  have hm4 : L * n ≤ L * 121 := Nat.mul_le_mul_left _ n121
  have HP := Lib.hid (show frq (sN (bothN q n k) n) (lcN (deQ q) n) = p by rw [both_frq hge k hkn]; exact hp)
  have HBL := Lib.hid (show ∀ i, i < n → nlen (bothN q n k i) ≤ L * 122 + 1 from fun i hi => by unfold bothN; have := nm_len h hm4 hld i hi; by_cases h : nmN q n i ≤ nmN q n k; (· rw [if_pos h]; exact this); (· rw [if_neg h, nlen_zero]; omega))
  have d0 : decide (0 ≤ (k : Int)) = true := by simp
  have d1 : decide ((k : Int) < (n : Int)) = true := by simp; omega
  clear hv hp hge
  have hN0 := hN
  have HA := Lib.hid h
  clear h
  have HB := Lib.hid (Below.refl w.heap.size w)
  go_enter Tryd.func29, Tryd.ntmps29
  go_wp2_with fail
  refine calls_name fun W0 hW => ?_
  have hs_W0 : w.heap.size ≤ W0.heap.size := by rw [← hW]; exact OmT
  have HL_W0 := Lib.hid (show Below w.heap.size w W0 by rw [← hW]; exact BlA)
  have k_R_0 : W0.cell? ⟨w.heap.size, 0, none⟩ = some (.bool false) := by rw [← hW]; exact CeA
  have k_R_1 : W0.cell? ⟨w.heap.size, 1, none⟩ = some (.slice none 0 0) := by rw [← hW]; exact CeA
  have k_R_2 : W0.cell? ⟨w.heap.size, 2, none⟩ = some (.slice none 0 0) := by rw [← hW]; exact CeA
  have f_R : ∀ o, W0.frozen? ⟨w.heap.size, o, none⟩ = false := by intro o; rw [← hW]; exact CeA
  have HX_R := Lib.hid (show Bn W0 (w.heap.size) by rw [← hW]; exact KpA)
  replace HB := Lib.hid (show Below w.heap.size w W0 by rw [← hW]; exact BlA)
  replace hN : N ≤ W0.heap.size := by rw [← hW]; exact OmT
  have hs0 : w.heap.size ≤ W0.heap.size := by rw [← hW]; exact OmT
  have hl_R : w.heap.size < W0.heap.size := by rw [← hW]; exact OmT
  replace HA := Lib.hid (HA.out.below HL_W0.out)
  clear HL_W0
  clear hW
  refine (num_yes (N := N) _ _ _ q L _ hN HA.out hL HV.out).mono ?_
  rintro e wa ⟨b, r, c, rfl, hb1, hb2, hl, hn, hb⟩
  have hs_wa : W0.heap.size ≤ wa.heap.size := hb.size
  replace k_R_0 : wa.cell? ⟨w.heap.size, 0, none⟩ = some (.bool false) := (hb.cell (p := ⟨w.heap.size, 0, none⟩) hl_R).trans k_R_0
  replace k_R_1 : wa.cell? ⟨w.heap.size, 1, none⟩ = some (.slice none 0 0) := (hb.cell (p := ⟨w.heap.size, 1, none⟩) hl_R).trans k_R_1
  replace k_R_2 : wa.cell? ⟨w.heap.size, 2, none⟩ = some (.slice none 0 0) := (hb.cell (p := ⟨w.heap.size, 2, none⟩) hl_R).trans k_R_2
  replace f_R : ∀ o, wa.frozen? ⟨w.heap.size, o, none⟩ = false := fun o => (hb.frozen (p := ⟨w.heap.size, o, none⟩) hl_R).trans (f_R o)
  replace HX_R := Lib.hid (HX_R.out.below hb)
  replace HB := Lib.hid (HB.out.trans (hb.mono hs0))
  replace hN : N ≤ wa.heap.size := Nat.le_trans hN hb.size
  replace hs0 : w.heap.size ≤ wa.heap.size := Nat.le_trans hs0 hb.size
  replace hl_R : w.heap.size < wa.heap.size := Nat.lt_of_lt_of_le hl_R hb.size
  replace HA := Lib.hid (HA.out.below hb)
  clear hb
  have HD := Lib.hid hn
  clear hn
  have HN := Lib.hid hl
  clear hl
  have HBa := HB
  have hsa := hs0
  have hNa := hN
  go_wp2_with fail
  go_loopw [9, 31] (fun v i wr => ∃ (j : Nat) (r : Option Addr) (c : Nat), j ≤ n ∧ i = .int .i64 j ∧ v = .slice r (nlen (sN (bothN q n k) j)) c ∧ Nt N wr r (nlen (sN (bothN q n k) j)) c (sN (bothN q n k) j) ∧ Below wa.heap.size wa wr ∧ wa.heap.size ≤ wr.heap.size) (fun _ i _ => n - (intOf i).toNat)
  case atStart => exact ⟨0, none, 0, Nat.zero_le _, rfl, by simp only [sN]; rw [nlen_zero], by simp only [sN]; rw [nlen_zero]; exact Nt.zero _ _, Below.refl _ _, Nat.le_refl _⟩
  case round =>
    obtain ⟨j, r9, c9, hj, rfl, rfl, hs9, hbel, hsz⟩ := hrel
    have HS := Lib.hid hs9
    have HNq := Lib.hid (HN.out.below hbel)
    have HDq := Lib.hid (HD.out.below hbel)
    have hl_R' : w.heap.size < wr.heap.size := Nat.lt_of_lt_of_le hl_R hsz
    have k_R_0' : wr.cell? ⟨w.heap.size, 0, none⟩ = some (.bool false) := (hbel.cell (p := ⟨w.heap.size, 0, none⟩) hl_R).trans k_R_0
    have k_R_1' : wr.cell? ⟨w.heap.size, 1, none⟩ = some (.slice none 0 0) := (hbel.cell (p := ⟨w.heap.size, 1, none⟩) hl_R).trans k_R_1
    have k_R_2' : wr.cell? ⟨w.heap.size, 2, none⟩ = some (.slice none 0 0) := (hbel.cell (p := ⟨w.heap.size, 2, none⟩) hl_R).trans k_R_2
    have f_R' : ∀ o, wr.frozen? ⟨w.heap.size, o, none⟩ = false := fun o => (hbel.frozen (p := ⟨w.heap.size, o, none⟩) hl_R).trans (f_R o)
    have HX_R' := Lib.hid (HX_R.out.below hbel)
    clear hl_R k_R_0 k_R_1 k_R_2 f_R HX_R
    have hl_R := hl_R'
    have k_R_0 := k_R_0'
    have k_R_1 := k_R_1'
    have k_R_2 := k_R_2'
    have f_R := f_R'
    have HX_R := HX_R'
    clear hl_R' k_R_0' k_R_1' k_R_2' f_R' HX_R'
    clear hs9 HB hs0 hN HA
    have HB := Lib.hid hbel
    have hs0 := hsz
    have hN : N ≤ wr.heap.size := by omega
    clear hbel
    have hsl : nlen (sN (bothN q n k) j) ≤ L * 122 + 2 := nlen_sN _ _ _ (fun i hi => HBL.out i (by omega)) (by omega)
    by_cases hjn : j < n
    · obtain ⟨x1, x2, x3, e1, e2, e3⟩ := HNq.out.2 j hjn
      have HJ := Lib.hid e2
      obtain ⟨y1, y2, y3, e4, e5, e6⟩ := HNq.out.2 k hkn
      have HK := Lib.hid e5
      clear e2 e5
      obtain ⟨κ, hκ⟩ : ∃ κ, cmpN (nmN q n j) (nmN q n k) = κ := ⟨_, rfl⟩
      have HC := Lib.hid hκ
      by_cases hle : nmN q n j ≤ nmN q n k
      · have dκ : decide (κ ≤ 0) = true := by rw [← hκ, cmpN_le]; exact decide_eq_true hle
        have HBN := Lib.hid (show bothN q n k j = nmN q n j by unfold bothN; rw [if_pos hle])
        clear hκ hle
        go_wp2_with fail
        refine (cmp_b (N := N) _ _ _ _ (nmN q n j) _ _ (nmN q n k) _ HJ.out HK.out κ HC.out).mono ?_
        rintro e wb ⟨rfl, hb⟩
        have hs_wb : wr.heap.size ≤ wb.heap.size := hb.size
        replace k_R_0 : wb.cell? ⟨w.heap.size, 0, none⟩ = some (.bool false) := (hb.cell (p := ⟨w.heap.size, 0, none⟩) hl_R).trans k_R_0
        replace k_R_1 : wb.cell? ⟨w.heap.size, 1, none⟩ = some (.slice none 0 0) := (hb.cell (p := ⟨w.heap.size, 1, none⟩) hl_R).trans k_R_1
        replace k_R_2 : wb.cell? ⟨w.heap.size, 2, none⟩ = some (.slice none 0 0) := (hb.cell (p := ⟨w.heap.size, 2, none⟩) hl_R).trans k_R_2
        replace f_R : ∀ o, wb.frozen? ⟨w.heap.size, o, none⟩ = false := fun o => (hb.frozen (p := ⟨w.heap.size, o, none⟩) hl_R).trans (f_R o)
        replace HX_R := Lib.hid (HX_R.out.below hb)
        replace HDq := Lib.hid (HDq.out.below hb)
        replace HS := Lib.hid (HS.out.below hb)
        replace HJ := Lib.hid (HJ.out.below hb)
        replace HK := Lib.hid (HK.out.below hb)
        replace HB := Lib.hid (HB.out.trans (hb.mono hs0))
        replace hN : N ≤ wb.heap.size := Nat.le_trans hN hb.size
        replace hs0 : wa.heap.size ≤ wb.heap.size := Nat.le_trans hs0 hb.size
        replace hl_R : w.heap.size < wb.heap.size := Nat.lt_of_lt_of_le hl_R hb.size
        replace HNq := Lib.hid (HNq.out.below hb)
        clear hb
        clear e1 e4
        go_wp2_with fail
        refine (add_any (N := N) _ _ _ _ (sN (bothN q n k) j) _ _ (nmN q n j) _ hN HS.out HJ.out (by omega) (by omega)).mono ?_
        rintro e wc ⟨rs, cs, rfl, hn, hb⟩
        have hs_wc : wb.heap.size ≤ wc.heap.size := hb.size
        replace k_R_0 : wc.cell? ⟨w.heap.size, 0, none⟩ = some (.bool false) := (hb.cell (p := ⟨w.heap.size, 0, none⟩) hl_R).trans k_R_0
        replace k_R_1 : wc.cell? ⟨w.heap.size, 1, none⟩ = some (.slice none 0 0) := (hb.cell (p := ⟨w.heap.size, 1, none⟩) hl_R).trans k_R_1
        replace k_R_2 : wc.cell? ⟨w.heap.size, 2, none⟩ = some (.slice none 0 0) := (hb.cell (p := ⟨w.heap.size, 2, none⟩) hl_R).trans k_R_2
        replace f_R : ∀ o, wc.frozen? ⟨w.heap.size, o, none⟩ = false := fun o => (hb.frozen (p := ⟨w.heap.size, o, none⟩) hl_R).trans (f_R o)
        replace HX_R := Lib.hid (HX_R.out.below hb)
        replace HDq := Lib.hid (HDq.out.below hb)
        replace HS := Lib.hid (HS.out.below hb)
        replace HJ := Lib.hid (HJ.out.below hb)
        replace HK := Lib.hid (HK.out.below hb)
        replace HB := Lib.hid (HB.out.trans (hb.mono hs0))
        replace hN : N ≤ wc.heap.size := Nat.le_trans hN hb.size
        replace hs0 : wa.heap.size ≤ wc.heap.size := Nat.le_trans hs0 hb.size
        replace hl_R : w.heap.size < wc.heap.size := Nat.lt_of_lt_of_le hl_R hb.size
        replace HNq := Lib.hid (HNq.out.below hb)
        clear hb
        have HS2 := Lib.hid hn
        clear hn
        have HE := Lib.hid (show sN (bothN q n k) j + nmN q n j = sN (bothN q n k) (j + 1) by simp only [sN]; rw [HBN.out])
        go_wp2_with fail
        go_roundw
        case rel => exact ⟨j + 1, rs, cs, by omega, by go_num, by rw [HE.out], by rw [← HE.out]; exact HS2.out, HB.out, hs0⟩
        case measure => simp [intOf]; omega
      · have dκ : decide (κ ≤ 0) = false := by rw [← hκ, cmpN_le]; exact decide_eq_false hle
        have HBN := Lib.hid (show bothN q n k j = 0 by unfold bothN; rw [if_neg hle])
        clear hκ hle
        go_wp2_with fail
        refine (cmp_b (N := N) _ _ _ _ (nmN q n j) _ _ (nmN q n k) _ HJ.out HK.out κ HC.out).mono ?_
        rintro e wb ⟨rfl, hb⟩
        have hs_wb : wr.heap.size ≤ wb.heap.size := hb.size
        replace k_R_0 : wb.cell? ⟨w.heap.size, 0, none⟩ = some (.bool false) := (hb.cell (p := ⟨w.heap.size, 0, none⟩) hl_R).trans k_R_0
        replace k_R_1 : wb.cell? ⟨w.heap.size, 1, none⟩ = some (.slice none 0 0) := (hb.cell (p := ⟨w.heap.size, 1, none⟩) hl_R).trans k_R_1
        replace k_R_2 : wb.cell? ⟨w.heap.size, 2, none⟩ = some (.slice none 0 0) := (hb.cell (p := ⟨w.heap.size, 2, none⟩) hl_R).trans k_R_2
        replace f_R : ∀ o, wb.frozen? ⟨w.heap.size, o, none⟩ = false := fun o => (hb.frozen (p := ⟨w.heap.size, o, none⟩) hl_R).trans (f_R o)
        replace HX_R := Lib.hid (HX_R.out.below hb)
        replace HDq := Lib.hid (HDq.out.below hb)
        replace HS := Lib.hid (HS.out.below hb)
        replace HJ := Lib.hid (HJ.out.below hb)
        replace HK := Lib.hid (HK.out.below hb)
        replace HB := Lib.hid (HB.out.trans (hb.mono hs0))
        replace hN : N ≤ wb.heap.size := Nat.le_trans hN hb.size
        replace hs0 : wa.heap.size ≤ wb.heap.size := Nat.le_trans hs0 hb.size
        replace hl_R : w.heap.size < wb.heap.size := Nat.lt_of_lt_of_le hl_R hb.size
        replace HNq := Lib.hid (HNq.out.below hb)
        clear hb
        clear e1 e4
        go_wp2_with fail
        have HE := Lib.hid (show sN (bothN q n k) j = sN (bothN q n k) (j + 1) by simp only [sN]; rw [HBN.out, Nat.add_zero])
        go_roundw
        case rel => exact ⟨j + 1, r9, c9, by omega, by go_num, by rw [← HE.out], by rw [← HE.out]; exact HS.out, HB.out, hs0⟩
        case measure => simp [intOf]; omega
    · obtain rfl : j = n := by omega
      go_wp2_with fail
      refine (fraction_any (N := N) _ _ _ _ (sN (bothN q j k) j) _ _ (lcN (deQ q) j) _ hN HS.out HDq.out (by omega) (by omega) p HP.out).mono ?_
      rintro e wc ⟨ru, cu, ru2, cu2, rfl, hn, hn', hb⟩
      have hs_wc : wr.heap.size ≤ wc.heap.size := hb.size
      replace k_R_0 : wc.cell? ⟨w.heap.size, 0, none⟩ = some (.bool false) := (hb.cell (p := ⟨w.heap.size, 0, none⟩) hl_R).trans k_R_0
      replace k_R_1 : wc.cell? ⟨w.heap.size, 1, none⟩ = some (.slice none 0 0) := (hb.cell (p := ⟨w.heap.size, 1, none⟩) hl_R).trans k_R_1
      replace k_R_2 : wc.cell? ⟨w.heap.size, 2, none⟩ = some (.slice none 0 0) := (hb.cell (p := ⟨w.heap.size, 2, none⟩) hl_R).trans k_R_2
      replace f_R : ∀ o, wc.frozen? ⟨w.heap.size, o, none⟩ = false := fun o => (hb.frozen (p := ⟨w.heap.size, o, none⟩) hl_R).trans (f_R o)
      replace HX_R := Lib.hid (HX_R.out.below hb)
      replace HDq := Lib.hid (HDq.out.below hb)
      replace HS := Lib.hid (HS.out.below hb)
      replace HB := Lib.hid (HB.out.trans (hb.mono hs0))
      replace hN : N ≤ wc.heap.size := Nat.le_trans hN hb.size
      replace hs0 : wa.heap.size ≤ wc.heap.size := Nat.le_trans hs0 hb.size
      replace hl_R : w.heap.size < wc.heap.size := Nat.lt_of_lt_of_le hl_R hb.size
      replace HNq := Lib.hid (HNq.out.below hb)
      clear hb
      have HP1 := Lib.hid hn
      clear hn
      have HQ1 := Lib.hid hn'
      clear hn'
      have HBf := Lib.hid (HBa.out.trans (HB.out.mono hsa))
      clear HB
      have HB := HBf
      go_wp2_with fail
      refine bodyPost_ret (v := .tuple #[.agg #[.bool (decide ((p).num < 0)), .slice ru (nlen (p).num.natAbs) cu, .slice ru2 (nlen (p).den) cu2], .int .i64 0]) (by simp [results, Tryd.results29, go_sem, k_R_0, k_R_1, k_R_2]) rfl ⟨_, _, _, _, rfl, HP1.out.keep ?_, HQ1.out.keep ?_, ?_⟩
      all_goals exact KBA

theorem num_or {N : Nat} (a : Option Addr) (n cap : Nat) (q : Nat → Rat) (L : Nat) (w : World) (hN : N ≤ w.heap.size) (h : Rs N w a n cap q L) (hL : L ≤ 2097152) (v : Bool) (hv : valid q n = v) :
    Calls Tryd.prog 47 #[.slice a n cap] w fun e w' => ∃ v1 v2, e = .returned (.tuple #[v1, v2, .bool v]) ∧ Below w.heap.size w w' := by
  cases v
  · exact num_no a n cap q L w hN h hL hv
  · refine (num_yes a n cap q L w hN h hL hv).mono ?_
    rintro e w' ⟨b, r, c, rfl, _, _, _, _, hb⟩
    exact ⟨_, _, rfl, hb⟩

set_option maxHeartbeats 2000000 in
theorem Convolve_bad {N : Nat} (a b : Option Addr) (n ca m cb : Nat) (x y : Nat → Rat) (L : Nat) (w : World) (hN : N ≤ w.heap.size) (h : Rs N w a n ca x L) (h' : Rs N w b m cb y L) (hL : L ≤ 2097152) (hv : valid x n = false ∨ valid y m = false) :
    Calls Tryd.prog 44 #[.slice a n ca, .slice b m cb] w (ErrPost w 1) := by
  obtain ⟨vx, hvx⟩ : ∃ v, valid x n = v := ⟨_, rfl⟩
  obtain ⟨vy, hvy⟩ : ∃ v, valid y m = v := ⟨_, rfl⟩
  rw [hvx, hvy] at hv
  have Hx := Lib.hid hvx
  have Hy := Lib.hid hvy
  clear hvx hvy
  cases vx
  · clear hv
    have hN0 := hN
    have HA := Lib.hid h
    have HAb := Lib.hid h'
    have bc1 := h.1
    have bc2 := h.2.1
    have bc3 := h'.1
    have bc4 := h'.2.1
    unfold maxLen at bc2 bc4
    clear h h'
    have HB := Lib.hid (Below.refl w.heap.size w)
    go_enter Tryd.func44, Tryd.ntmps44
    go_wp2_with fail
    refine calls_name fun W0 hW => ?_
    have hs_W0 : w.heap.size ≤ W0.heap.size := by rw [← hW]; exact OmT
    have HL_W0 := Lib.hid (show Below w.heap.size w W0 by rw [← hW]; exact BlA)
    replace HB := Lib.hid (show Below w.heap.size w W0 by rw [← hW]; exact BlA)
    replace hN : N ≤ W0.heap.size := by rw [← hW]; exact OmT
    have hs0 : w.heap.size ≤ W0.heap.size := by rw [← hW]; exact OmT
    replace HA := Lib.hid (HA.out.below HL_W0.out)
    replace HAb := Lib.hid (HAb.out.below HL_W0.out)
    clear HL_W0
    clear hW
    refine (num_or (N := N) _ _ _ x L _ hN HA.out hL false Hx.out).mono ?_
    rintro e wa ⟨v1, v2, rfl, hb⟩
    have hs_wa : W0.heap.size ≤ wa.heap.size := hb.size
    replace HB := Lib.hid (HB.out.trans (hb.mono hs0))
    replace hN : N ≤ wa.heap.size := Nat.le_trans hN hb.size
    replace hs0 : w.heap.size ≤ wa.heap.size := Nat.le_trans hs0 hb.size
    replace HA := Lib.hid (HA.out.below hb)
    replace HAb := Lib.hid (HAb.out.below hb)
    clear hb
    go_wp2_with fail
    refine calls_name fun W1 hW => ?_
    have hs_W1 : wa.heap.size ≤ W1.heap.size := by rw [← hW]; exact OmT
    have HL_W1 := Lib.hid (show Below wa.heap.size wa W1 by rw [← hW]; exact BlA)
    replace HB := Lib.hid (show Below w.heap.size w W1 by rw [← hW]; exact BlA)
    replace hN : N ≤ W1.heap.size := by rw [← hW]; exact OmT
    replace hs0 : w.heap.size ≤ W1.heap.size := by rw [← hW]; exact OmT
    replace HA := Lib.hid (HA.out.below HL_W1.out)
    replace HAb := Lib.hid (HAb.out.below HL_W1.out)
    clear HL_W1
    clear hW
    refine (num_or (N := N) _ _ _ y L _ hN HAb.out hL vy Hy.out).mono ?_
    rintro e wb ⟨v3, v4, rfl, hb⟩
    have hs_wb : W1.heap.size ≤ wb.heap.size := hb.size
    replace HB := Lib.hid (HB.out.trans (hb.mono hs0))
    replace hN : N ≤ wb.heap.size := Nat.le_trans hN hb.size
    replace hs0 : w.heap.size ≤ wb.heap.size := Nat.le_trans hs0 hb.size
    replace HA := Lib.hid (HA.out.below hb)
    replace HAb := Lib.hid (HAb.out.below hb)
    clear hb
    go_wp2_with fail
    go_ret2
    exact ⟨rfl, HB.out⟩
  · obtain rfl : vy = false := by simpa using hv
    clear hv
    have hN0 := hN
    have HA := Lib.hid h
    have HAb := Lib.hid h'
    have bc1 := h.1
    have bc2 := h.2.1
    have bc3 := h'.1
    have bc4 := h'.2.1
    unfold maxLen at bc2 bc4
    clear h h'
    have HB := Lib.hid (Below.refl w.heap.size w)
    go_enter Tryd.func44, Tryd.ntmps44
    go_wp2_with fail
    refine calls_name fun W0 hW => ?_
    have hs_W0 : w.heap.size ≤ W0.heap.size := by rw [← hW]; exact OmT
    have HL_W0 := Lib.hid (show Below w.heap.size w W0 by rw [← hW]; exact BlA)
    replace HB := Lib.hid (show Below w.heap.size w W0 by rw [← hW]; exact BlA)
    replace hN : N ≤ W0.heap.size := by rw [← hW]; exact OmT
    have hs0 : w.heap.size ≤ W0.heap.size := by rw [← hW]; exact OmT
    replace HA := Lib.hid (HA.out.below HL_W0.out)
    replace HAb := Lib.hid (HAb.out.below HL_W0.out)
    clear HL_W0
    clear hW
    refine (num_or (N := N) _ _ _ x L _ hN HA.out hL true Hx.out).mono ?_
    rintro e wa ⟨v1, v2, rfl, hb⟩
    have hs_wa : W0.heap.size ≤ wa.heap.size := hb.size
    replace HB := Lib.hid (HB.out.trans (hb.mono hs0))
    replace hN : N ≤ wa.heap.size := Nat.le_trans hN hb.size
    replace hs0 : w.heap.size ≤ wa.heap.size := Nat.le_trans hs0 hb.size
    replace HA := Lib.hid (HA.out.below hb)
    replace HAb := Lib.hid (HAb.out.below hb)
    clear hb
    go_wp2_with fail
    refine calls_name fun W1 hW => ?_
    have hs_W1 : wa.heap.size ≤ W1.heap.size := by rw [← hW]; exact OmT
    have HL_W1 := Lib.hid (show Below wa.heap.size wa W1 by rw [← hW]; exact BlA)
    replace HB := Lib.hid (show Below w.heap.size w W1 by rw [← hW]; exact BlA)
    replace hN : N ≤ W1.heap.size := by rw [← hW]; exact OmT
    replace hs0 : w.heap.size ≤ W1.heap.size := by rw [← hW]; exact OmT
    replace HA := Lib.hid (HA.out.below HL_W1.out)
    replace HAb := Lib.hid (HAb.out.below HL_W1.out)
    clear HL_W1
    clear hW
    refine (num_or (N := N) _ _ _ y L _ hN HAb.out hL false Hy.out).mono ?_
    rintro e wb ⟨v3, v4, rfl, hb⟩
    have hs_wb : W1.heap.size ≤ wb.heap.size := hb.size
    replace HB := Lib.hid (HB.out.trans (hb.mono hs0))
    replace hN : N ≤ wb.heap.size := Nat.le_trans hN hb.size
    replace hs0 : w.heap.size ≤ wb.heap.size := Nat.le_trans hs0 hb.size
    replace HA := Lib.hid (HA.out.below hb)
    replace HAb := Lib.hid (HAb.out.below hb)
    clear hb
    go_wp2_with fail
    go_ret2
    exact ⟨rfl, HB.out⟩

set_option maxHeartbeats 2000000 in
theorem Convolve_long {N : Nat} (a b : Option Addr) (n ca m cb : Nat) (x y : Nat → Rat) (L : Nat) (w : World) (hN : N ≤ w.heap.size) (h : Rs N w a n ca x L) (h' : Rs N w b m cb y L) (hL : L ≤ 2097152) (hvx : valid x n = true) (hvy : valid y m = true) (hlong : 122 < n + m) :
    Calls Tryd.prog 44 #[.slice a n ca, .slice b m cb] w (ErrPost w 5) := by
  obtain ⟨n0, n121, _, _⟩ := valid_iff.1 hvx
  obtain ⟨m0, m121, _, _⟩ := valid_iff.1 hvy
  have Hx := Lib.hid hvx
  have Hy := Lib.hid hvy
  have d1 : decide (121 < (n : Int) + (m : Int) - 1) = true := by simp; omega
  clear hvx hvy
  have hN0 := hN
  have HA := Lib.hid h
  have HAb := Lib.hid h'
  have bc1 := h.1
  have bc2 := h.2.1
  have bc3 := h'.1
  have bc4 := h'.2.1
  unfold maxLen at bc2 bc4
  clear h h'
  have HB := Lib.hid (Below.refl w.heap.size w)
  go_enter Tryd.func44, Tryd.ntmps44
  go_wp2_with fail
  refine calls_name fun W0 hW => ?_
  have hs_W0 : w.heap.size ≤ W0.heap.size := by rw [← hW]; exact OmT
  have HL_W0 := Lib.hid (show Below w.heap.size w W0 by rw [← hW]; exact BlA)
  replace HB := Lib.hid (show Below w.heap.size w W0 by rw [← hW]; exact BlA)
  replace hN : N ≤ W0.heap.size := by rw [← hW]; exact OmT
  have hs0 : w.heap.size ≤ W0.heap.size := by rw [← hW]; exact OmT
  replace HA := Lib.hid (HA.out.below HL_W0.out)
  replace HAb := Lib.hid (HAb.out.below HL_W0.out)
  clear HL_W0
  clear hW
  refine (num_or (N := N) _ _ _ x L _ hN HA.out hL true Hx.out).mono ?_
  rintro e wa ⟨v1, v2, rfl, hb⟩
  have hs_wa : W0.heap.size ≤ wa.heap.size := hb.size
  replace HB := Lib.hid (HB.out.trans (hb.mono hs0))
  replace hN : N ≤ wa.heap.size := Nat.le_trans hN hb.size
  replace hs0 : w.heap.size ≤ wa.heap.size := Nat.le_trans hs0 hb.size
  replace HA := Lib.hid (HA.out.below hb)
  replace HAb := Lib.hid (HAb.out.below hb)
  clear hb
  go_wp2_with fail
  refine calls_name fun W1 hW => ?_
  have hs_W1 : wa.heap.size ≤ W1.heap.size := by rw [← hW]; exact OmT
  have HL_W1 := Lib.hid (show Below wa.heap.size wa W1 by rw [← hW]; exact BlA)
  replace HB := Lib.hid (show Below w.heap.size w W1 by rw [← hW]; exact BlA)
  replace hN : N ≤ W1.heap.size := by rw [← hW]; exact OmT
  replace hs0 : w.heap.size ≤ W1.heap.size := by rw [← hW]; exact OmT
  replace HA := Lib.hid (HA.out.below HL_W1.out)
  replace HAb := Lib.hid (HAb.out.below HL_W1.out)
  clear HL_W1
  clear hW
  refine (num_or (N := N) _ _ _ y L _ hN HAb.out hL true Hy.out).mono ?_
  rintro e wb ⟨v3, v4, rfl, hb⟩
  have hs_wb : W1.heap.size ≤ wb.heap.size := hb.size
  replace HB := Lib.hid (HB.out.trans (hb.mono hs0))
  replace hN : N ≤ wb.heap.size := Nat.le_trans hN hb.size
  replace hs0 : w.heap.size ≤ wb.heap.size := Nat.le_trans hs0 hb.size
  replace HA := Lib.hid (HA.out.below hb)
  replace HAb := Lib.hid (HAb.out.below hb)
  clear hb
  go_wp2_with fail
  go_ret2
  exact ⟨rfl, HB.out⟩

theorem cv_frq (x y : Nat → Rat) (n m k : Nat) (hx : ∀ i, i < n → 0 ≤ x i) (hy : ∀ i, i < m → 0 ≤ y i) : frq (cvN (nmN x n) (nmN y m) m k n) (lcN (deQ x) n * lcN (deQ y) m) = cnv x n y m k := by
  rw [frq_div]
  unfold cvN
  rw [sN_sQ, sQ_congr (g := fun i => cnvT x y m k i * ((((dnm x n : Nat) : Rat)) * ((dnm y m : Nat) : Rat))) (fun i hi => by
    unfold cvT cnvT
    by_cases h : i ≤ k ∧ k - i < m
    · rw [if_pos h, if_pos h, natQ_mul, nm_cast x n i hi (hx i hi), nm_cast y m (k - i) h.2 (hy (k - i) h.2)]; grind
    · rw [if_neg h, if_neg h]; grind), sQ_mulr, natQ_mul]
  have h1 := natQ_ne (dnm_pos x n)
  have h2 := natQ_ne (dnm_pos y m)
  unfold cnv
  unfold dnm at *
  grind

set_option maxHeartbeats 4000000 in
theorem Convolve_ok {N : Nat} (a b : Option Addr) (n ca m cb : Nat) (x y : Nat → Rat) (L : Nat) (w : World) (hN : N ≤ w.heap.size) (h : Rs N w a n ca x L) (h' : Rs N w b m cb y L) (hL : L ≤ 2097152) (hvx : valid x n = true) (hvy : valid y m = true) (M : Nat) (hM : n + m = M + 1) (hshort : M ≤ 121) (p : Nat → Rat) (hp : ∀ k, k < M → cnv x n y m k = p k) :
    Calls Tryd.prog 44 #[.slice a n ca, .slice b m cb] w (DistPost N w M p) := by
  obtain ⟨n0, n121, hx0, _⟩ := valid_iff.1 hvx
  obtain ⟨m0, m121, hy0, _⟩ := valid_iff.1 hvy
  have Hx := Lib.hid hvx
  have Hy := Lib.hid hvy
  have d1 : decide (121 < (n : Int) + (m : Int) - 1) = false := by simp; omega
  have HQ := Lib.hid (show ∀ k, k < M → frq (cvN (nmN x n) (nmN y m) m k n) (lcN (deQ x) n * lcN (deQ y) m) = p k from fun k hk => by rw [cv_frq x y n m k hx0 hy0]; exact hp k hk)
  have hl1 : nlen (lcN (deQ x) n) ≤ L * n + 1 := lcN_len (fun i hi => by have := h.lim i hi; unfold rsz at this; unfold deQ; omega)
  have hl2 : nlen (lcN (deQ y) m) ≤ L * m + 1 := lcN_len (fun i hi => by have := h'.lim i hi; unfold rsz at this; unfold deQ; omega)
  have hm1 : L * n ≤ L * 121 := Nat.mul_le_mul_left _ n121
  have hm2 : L * m ≤ L * 121 := Nat.mul_le_mul_left _ m121
  clear hvx hvy hp hx0 hy0
  have hN0 := hN
  have HA := Lib.hid h
  have HAb := Lib.hid h'
  have bc1 := h.1
  have bc2 := h.2.1
  have bc3 := h'.1
  have bc4 := h'.2.1
  unfold maxLen at bc2 bc4
  clear h h'
  have HB := Lib.hid (Below.refl w.heap.size w)
  go_enter Tryd.func44, Tryd.ntmps44
  go_wp2_with fail
  refine calls_name fun W0 hW => ?_
  have hs_W0 : w.heap.size ≤ W0.heap.size := by rw [← hW]; exact OmT
  have HL_W0 := Lib.hid (show Below w.heap.size w W0 by rw [← hW]; exact BlA)
  replace HB := Lib.hid (show Below w.heap.size w W0 by rw [← hW]; exact BlA)
  replace hN : N ≤ W0.heap.size := by rw [← hW]; exact OmT
  have hs0 : w.heap.size ≤ W0.heap.size := by rw [← hW]; exact OmT
  replace HA := Lib.hid (HA.out.below HL_W0.out)
  replace HAb := Lib.hid (HAb.out.below HL_W0.out)
  clear HL_W0
  clear hW
  refine (num_yes (N := N) _ _ _ x L _ hN HA.out hL Hx.out).mono ?_
  rintro e wa ⟨b1, r1, c1, rfl, hb1, hb2, hl, hn, hb⟩
  have hs_wa : W0.heap.size ≤ wa.heap.size := hb.size
  replace HB := Lib.hid (HB.out.trans (hb.mono hs0))
  replace hN : N ≤ wa.heap.size := Nat.le_trans hN hb.size
  replace hs0 : w.heap.size ≤ wa.heap.size := Nat.le_trans hs0 hb.size
  replace HA := Lib.hid (HA.out.below hb)
  replace HAb := Lib.hid (HAb.out.below hb)
  clear hb
  have HD1 := Lib.hid hn
  clear hn
  have HN1 := Lib.hid hl
  clear hl
  go_wp2_with fail
  refine calls_name fun W1 hW => ?_
  have hs_W1 : wa.heap.size ≤ W1.heap.size := by rw [← hW]; exact OmT
  have HK_W1 := Lib.hid (show Kp N wa W1 by rw [← hW]; exact KpA)
  have HL_W1 := Lib.hid (show Below wa.heap.size wa W1 by rw [← hW]; exact BlA)
  replace HD1 := Lib.hid (HD1.out.keep HK_W1.out)
  replace HB := Lib.hid (show Below w.heap.size w W1 by rw [← hW]; exact BlA)
  replace hN : N ≤ W1.heap.size := by rw [← hW]; exact OmT
  replace hs0 : w.heap.size ≤ W1.heap.size := by rw [← hW]; exact OmT
  replace HN1 := Lib.hid (HN1.out.below HL_W1.out)
  replace HA := Lib.hid (HA.out.below HL_W1.out)
  replace HAb := Lib.hid (HAb.out.below HL_W1.out)
  clear HL_W1
  clear hW HK_W1
  have lt_HN1 := HN1.out.lt
  refine (num_yes (N := N) _ _ _ y L _ hN HAb.out hL Hy.out).mono ?_
  rintro e wb ⟨b2, r2, c2, rfl, hb3, hb4, hl, hn, hb⟩
  have hs_wb : W1.heap.size ≤ wb.heap.size := hb.size
  replace HD1 := Lib.hid (HD1.out.below hb)
  replace HB := Lib.hid (HB.out.trans (hb.mono hs0))
  replace hN : N ≤ wb.heap.size := Nat.le_trans hN hb.size
  replace hs0 : w.heap.size ≤ wb.heap.size := Nat.le_trans hs0 hb.size
  replace HN1 := Lib.hid (HN1.out.below hb)
  replace HA := Lib.hid (HA.out.below hb)
  replace HAb := Lib.hid (HAb.out.below hb)
  clear hb
  have HD2 := Lib.hid hn
  clear hn
  have HN2 := Lib.hid hl
  clear hl
  go_wp2_with fail
  refine (product_any (N := N) _ _ n _ m _ (L * 123 + 2) (L * 123 + 2) (nmN x n) (nmN y m) _ hN (HN1.out.ns (by unfold maxLen; omega)) (HN2.out.ns (by unfold maxLen; omega)) (by omega) (by omega) M hM (by omega) (by omega) (by omega) (by omega)).mono ?_
  rintro e wc ⟨bp, rfl, hbp1, hbp2, hl, hb⟩
  have hs_wc : wb.heap.size ≤ wc.heap.size := hb.size
  replace HD1 := Lib.hid (HD1.out.below hb)
  replace HD2 := Lib.hid (HD2.out.below hb)
  replace HB := Lib.hid (HB.out.trans (hb.mono hs0))
  replace hN : N ≤ wc.heap.size := Nat.le_trans hN hb.size
  replace hs0 : w.heap.size ≤ wc.heap.size := Nat.le_trans hs0 hb.size
  replace HN1 := Lib.hid (HN1.out.below hb)
  replace HN2 := Lib.hid (HN2.out.below hb)
  replace HA := Lib.hid (HA.out.below hb)
  replace HAb := Lib.hid (HAb.out.below hb)
  clear hb
  have HN3 := Lib.hid hl
  clear hl
  go_wp2_with fail
  refine (mul_any (N := N) _ _ _ _ (lcN (deQ x) n) _ _ (lcN (deQ y) m) _ hN HD1.out HD2.out (by omega) (by omega)).mono ?_
  rintro e wd ⟨rm, cm, rfl, hn, hb⟩
  have hs_wd : wc.heap.size ≤ wd.heap.size := hb.size
  replace HD1 := Lib.hid (HD1.out.below hb)
  replace HD2 := Lib.hid (HD2.out.below hb)
  replace HB := Lib.hid (HB.out.trans (hb.mono hs0))
  replace hN : N ≤ wd.heap.size := Nat.le_trans hN hb.size
  replace hs0 : w.heap.size ≤ wd.heap.size := Nat.le_trans hs0 hb.size
  replace HN1 := Lib.hid (HN1.out.below hb)
  replace HN2 := Lib.hid (HN2.out.below hb)
  replace HN3 := Lib.hid (HN3.out.below hb)
  replace HA := Lib.hid (HA.out.below hb)
  replace HAb := Lib.hid (HAb.out.below hb)
  clear hb
  have HM := Lib.hid hn
  clear hn
  have hml := nlen_mul (lcN (deQ x) n) (lcN (deQ y) m)
  go_wp2_with fail
  refine (fractions_any (N := N) _ _ M M (fun k => cvN (nmN x n) (nmN y m) m k n) (L * 123 + 2 + (L * 123 + 2) + 1) _ _ (lcN (deQ x) n * lcN (deQ y) m) _ hN (HN3.out.ns (by unfold maxLen; omega)) HM.out (by omega) (by omega) (by omega) p HQ.out).mono ?_
  rintro e we ⟨bq, rfl, hb5, hb6, hl, hb⟩
  have HL := Lib.hid hl
  have HB9 := Lib.hid (HB.out.trans (hb.mono hs0))
  clear hl hb
  go_wp2_with fail
  go_ret2
  exact ⟨bq, rfl, by omega, hb6, HL.out, HB9.out⟩

end Go.Proofs.YtmecipfdelgfbaaDoor
