import Derived.Test.YtnillajhhimeiaaGreatDoorJoE
namespace Go.Proofs.YtnillajhhimeiaaGreatDoor
open Go.RowKit
end Go.Proofs.YtnillajhhimeiaaGreatDoor
namespace Go.Proofs.YtnillajhhimeiaaGreatDoor
open Go.RowKit
theorem cmp_b {N : Nat} (a b : Option Addr) (na ca ma nb cb mb : Nat) (w : World) (ha : Nt N w a na ca ma) (hb : Nt N w b nb cb mb) (x : Int) (hx : cmpN ma mb = x) :
    Calls Tryz.prog 47 #[.slice a na ca,.slice b nb cb] w fun e w' => e = .returned (.int .i64 x) ∧ Below w.heap.size w w' := by
  refine (cmp_any (N := N) a b na ca ma nb cb mb w ha hb).mono ?_
  rintro e w' ⟨rfl,nq,rfl⟩
  exact ⟨by rw [hx],bel_drewN _ _ _⟩
theorem cmpN_le (a b : Nat) : decide (cmpN a b ≤ 0) = decide (a ≤ b) := by
  unfold cmpN
  by_cases h1 : a < b
  · rw [if_pos h1,decide_eq_true (by omega),decide_eq_true (by omega)]
  · rw [if_neg h1]
    by_cases h2 : b < a
    · rw [if_pos h2,decide_eq_false (by omega),decide_eq_false (by omega)]
    · rw [if_neg h2,decide_eq_true (by omega),decide_eq_true (by omega)]
theorem frq_zero (d : Nat) : frq 0 d = 0 := by unfold frq;simp
set_option maxHeartbeats 4000000 in
theorem Both_in {N : Nat} (a : Option Addr) (n cap : Nat) (q : Nat → Rat) (L : Nat) (w : World) (hN : N ≤ w.heap.size) (h : Rs N w a n cap q L) (hL : L ≤ 2097152) (hv : valid q n = true) (k : Nat) (hkn : k < n) (p : Rat) (hp : bothQ q n k = p) :
    Calls Tryz.prog 23 #[.slice a n cap,.int .i64 k] w (RatOk N w p) := by
  obtain ⟨n0,n121,hge,_⟩ := valid_iff.1 hv
  have HV := Lib.hid hv
  have hld : nlen (lcN (deQ q) n) ≤ L * n + 1 := lcN_len (fun i hi => by have := h.lim i hi;unfold rsz at this;unfold deQ;omega)
  have hm4 : L * n ≤ L * 121 := Nat.mul_le_mul_left _ n121
  have HP := Lib.hid (show frq (sN (bothN q n k) n) (lcN (deQ q) n) = p by rw [both_frq hge k hkn];exact hp)
  have HBL := Lib.hid (show ∀ i,i < n → nlen (bothN q n k i) ≤ L * 122 + 1 from fun i hi => by unfold bothN;have := nm_len h hm4 hld i hi;by_cases h : nmN q n i ≤ nmN q n k;(· rw [if_pos h];exact this);(· rw [if_neg h,nlen_zero];omega))
  have d0 : decide (0 ≤ (k : Int)) = true := by simp
  have d1 : decide ((k : Int) < (n : Int)) = true := by simp;omega
  clear hv hp hge
  have hN0 := hN
  have HA := Lib.hid h
  clear h
  have HB := Lib.hid (Below.refl w.heap.size w)
  go_enter Tryz.func23,Tryz.ntmps23
  go_wp2_with fail
  refine calls_name fun W0 hW => ?_
  have hs_W0 : w.heap.size ≤ W0.heap.size := by rw [← hW];(first | omega | (simp;done) | (simp;omega))
  have HL_W0 := Lib.hid (show Below w.heap.size w W0 by rw [← hW];exact BlA)
  have k_R_0 : W0.cell? ⟨w.heap.size,0,none⟩ = some (.bool false) := by rw [← hW];(first | (go_simp;done) | (simp;done) | (simp [go_sem];done) | (simp [go_sem];done))
  have k_R_1 : W0.cell? ⟨w.heap.size,1,none⟩ = some (.slice none 0 0) := by rw [← hW];(first | (go_simp;done) | (simp;done) | (simp [go_sem];done) | (simp [go_sem];done))
  have k_R_2 : W0.cell? ⟨w.heap.size,2,none⟩ = some (.slice none 0 0) := by rw [← hW];(first | (go_simp;done) | (simp;done) | (simp [go_sem];done) | (simp [go_sem];done))
  have f_R : ∀ o,W0.frozen? ⟨w.heap.size,o,none⟩ = false := by intro o;rw [← hW];(first | (go_simp;done) | (simp;done) | (simp [go_sem];done) | (simp [go_sem];done))
  have HX_R := Lib.hid (show Bn W0 (w.heap.size) by rw [← hW];exact KpA)
  replace HB := Lib.hid (show Below w.heap.size w W0 by rw [← hW];exact BlA)
  replace hN : N ≤ W0.heap.size := by rw [← hW];(first | omega | (simp;done) | (simp;omega))
  have hs0 : w.heap.size ≤ W0.heap.size := by rw [← hW];(first | omega | (simp;done) | (simp;omega))
  have hl_R : w.heap.size < W0.heap.size := by rw [← hW];(first | omega | (simp;done) | (simp;omega))
  replace HA := Lib.hid (HA.out.below HL_W0.out)
  clear HL_W0
  clear hW
  refine (num_yes (N := N) _ _ _ q L _ hN HA.out hL HV.out).mono ?_
  rintro e wa ⟨b,r,c,rfl,hb1,hb2,hl,hn,hb⟩
  have hs_wa : W0.heap.size ≤ wa.heap.size := hb.size
  replace k_R_0 : wa.cell? ⟨w.heap.size,0,none⟩ = some (.bool false) := (hb.cell (p := ⟨w.heap.size,0,none⟩) hl_R).trans k_R_0
  replace k_R_1 : wa.cell? ⟨w.heap.size,1,none⟩ = some (.slice none 0 0) := (hb.cell (p := ⟨w.heap.size,1,none⟩) hl_R).trans k_R_1
  replace k_R_2 : wa.cell? ⟨w.heap.size,2,none⟩ = some (.slice none 0 0) := (hb.cell (p := ⟨w.heap.size,2,none⟩) hl_R).trans k_R_2
  replace f_R : ∀ o,wa.frozen? ⟨w.heap.size,o,none⟩ = false := fun o => (hb.frozen (p := ⟨w.heap.size,o,none⟩) hl_R).trans (f_R o)
  replace HX_R := Lib.hid (HX_R.out.below hb)
  replace HB := Lib.hid (HB.out.trans (hb.mono hs0))
  replace hN : N ≤ wa.heap.size := Nat.le_trans hN hb.size
  replace hs0 : w.heap.size ≤ wa.heap.size := Nat.le_trans hs0 hb.size
  replace hl_R : w.heap.size < wa.heap.size := Nat.lt_of_lt_of_le hl_R hb.size
  replace HA := Lib.hid (HA.out.below hb)
  clear hb
  have HD := Lib.hid hn
  clear hn
  have HN := Lib.hid hl
  clear hl
  have HBa := HB
  have hsa := hs0
  have hNa := hN
  go_wp2_with fail
  go_loopw [9,31] (fun v i wr => ∃ (j : Nat) (r : Option Addr) (c : Nat),j ≤ n ∧ i = .int .i64 j ∧ v = .slice r (nlen (sN (bothN q n k) j)) c ∧ Nt N wr r (nlen (sN (bothN q n k) j)) c (sN (bothN q n k) j) ∧ Below wa.heap.size wa wr ∧ wa.heap.size ≤ wr.heap.size) (fun _ i _ => n - (intOf i).toNat)
  case atStart => exact ⟨0,none,0,Nat.zero_le _,rfl,by simp only [sN];rw [nlen_zero],by simp only [sN];rw [nlen_zero];exact Nt.zero _ _,Below.refl _ _,Nat.le_refl _⟩
  case round =>
    obtain ⟨j,r9,c9,hj,rfl,rfl,hs9,hbel,hsz⟩ := hrel
    have HS := Lib.hid hs9
    have HNq := Lib.hid (HN.out.below hbel)
    have HDq := Lib.hid (HD.out.below hbel)
    have hl_R' : w.heap.size < wr.heap.size := Nat.lt_of_lt_of_le hl_R hsz
    have k_R_0' : wr.cell? ⟨w.heap.size,0,none⟩ = some (.bool false) := (hbel.cell (p := ⟨w.heap.size,0,none⟩) hl_R).trans k_R_0
    have k_R_1' : wr.cell? ⟨w.heap.size,1,none⟩ = some (.slice none 0 0) := (hbel.cell (p := ⟨w.heap.size,1,none⟩) hl_R).trans k_R_1
    have k_R_2' : wr.cell? ⟨w.heap.size,2,none⟩ = some (.slice none 0 0) := (hbel.cell (p := ⟨w.heap.size,2,none⟩) hl_R).trans k_R_2
    have f_R' : ∀ o,wr.frozen? ⟨w.heap.size,o,none⟩ = false := fun o => (hbel.frozen (p := ⟨w.heap.size,o,none⟩) hl_R).trans (f_R o)
    have HX_R' := Lib.hid (HX_R.out.below hbel)
    clear hl_R k_R_0 k_R_1 k_R_2 f_R HX_R
    have hl_R := hl_R'
    have k_R_0 := k_R_0'
    have k_R_1 := k_R_1'
    have k_R_2 := k_R_2'
    have f_R := f_R'
    have HX_R := HX_R'
    clear hl_R' k_R_0' k_R_1' k_R_2' f_R' HX_R'
    clear hs9 HB hs0 hN HA
    have HB := Lib.hid hbel
    have hs0 := hsz
    have hN : N ≤ wr.heap.size := by omega
    clear hbel
    have hsl : nlen (sN (bothN q n k) j) ≤ L * 122 + 2 := nlen_sN _ _ _ (fun i hi => HBL.out i (by omega)) (by omega)
    by_cases hjn : j < n
    · obtain ⟨x1,x2,x3,e1,e2,e3⟩ := HNq.out.2 j hjn
      have HJ := Lib.hid e2
      obtain ⟨y1,y2,y3,e4,e5,e6⟩ := HNq.out.2 k hkn
      have HK := Lib.hid e5
      clear e2 e5
      obtain ⟨κ,hκ⟩ : ∃ κ,cmpN (nmN q n j) (nmN q n k) = κ := ⟨_,rfl⟩
      have HC := Lib.hid hκ
      by_cases hle : nmN q n j ≤ nmN q n k
      · have dκ : decide (κ ≤ 0) = true := by rw [← hκ,cmpN_le];exact decide_eq_true hle
        have HBN := Lib.hid (show bothN q n k j = nmN q n j by unfold bothN;rw [if_pos hle])
        clear hκ hle
        go_wp2_with fail
        refine (cmp_b (N := N) _ _ _ _ (nmN q n j) _ _ (nmN q n k) _ HJ.out HK.out κ HC.out).mono ?_
        rintro e wb ⟨rfl,hb⟩
        have hs_wb : wr.heap.size ≤ wb.heap.size := hb.size
        replace k_R_0 : wb.cell? ⟨w.heap.size,0,none⟩ = some (.bool false) := (hb.cell (p := ⟨w.heap.size,0,none⟩) hl_R).trans k_R_0
        replace k_R_1 : wb.cell? ⟨w.heap.size,1,none⟩ = some (.slice none 0 0) := (hb.cell (p := ⟨w.heap.size,1,none⟩) hl_R).trans k_R_1
        replace k_R_2 : wb.cell? ⟨w.heap.size,2,none⟩ = some (.slice none 0 0) := (hb.cell (p := ⟨w.heap.size,2,none⟩) hl_R).trans k_R_2
        replace f_R : ∀ o,wb.frozen? ⟨w.heap.size,o,none⟩ = false := fun o => (hb.frozen (p := ⟨w.heap.size,o,none⟩) hl_R).trans (f_R o)
        replace HX_R := Lib.hid (HX_R.out.below hb)
        replace HDq := Lib.hid (HDq.out.below hb)
        replace HS := Lib.hid (HS.out.below hb)
        replace HJ := Lib.hid (HJ.out.below hb)
        replace HK := Lib.hid (HK.out.below hb)
        replace HB := Lib.hid (HB.out.trans (hb.mono hs0))
        replace hN : N ≤ wb.heap.size := Nat.le_trans hN hb.size
        replace hs0 : wa.heap.size ≤ wb.heap.size := Nat.le_trans hs0 hb.size
        replace hl_R : w.heap.size < wb.heap.size := Nat.lt_of_lt_of_le hl_R hb.size
        replace HNq := Lib.hid (HNq.out.below hb)
        clear hb
        clear e1 e4
        go_wp2_with fail
        refine (add_any (N := N) _ _ _ _ (sN (bothN q n k) j) _ _ (nmN q n j) _ hN HS.out HJ.out (by omega) (by omega)).mono ?_
        rintro e wc ⟨rs,cs,rfl,hn,hb⟩
        have hs_wc : wb.heap.size ≤ wc.heap.size := hb.size
        replace k_R_0 : wc.cell? ⟨w.heap.size,0,none⟩ = some (.bool false) := (hb.cell (p := ⟨w.heap.size,0,none⟩) hl_R).trans k_R_0
        replace k_R_1 : wc.cell? ⟨w.heap.size,1,none⟩ = some (.slice none 0 0) := (hb.cell (p := ⟨w.heap.size,1,none⟩) hl_R).trans k_R_1
        replace k_R_2 : wc.cell? ⟨w.heap.size,2,none⟩ = some (.slice none 0 0) := (hb.cell (p := ⟨w.heap.size,2,none⟩) hl_R).trans k_R_2
        replace f_R : ∀ o,wc.frozen? ⟨w.heap.size,o,none⟩ = false := fun o => (hb.frozen (p := ⟨w.heap.size,o,none⟩) hl_R).trans (f_R o)
        replace HX_R := Lib.hid (HX_R.out.below hb)
        replace HDq := Lib.hid (HDq.out.below hb)
        replace HS := Lib.hid (HS.out.below hb)
        replace HJ := Lib.hid (HJ.out.below hb)
        replace HK := Lib.hid (HK.out.below hb)
        replace HB := Lib.hid (HB.out.trans (hb.mono hs0))
        replace hN : N ≤ wc.heap.size := Nat.le_trans hN hb.size
        replace hs0 : wa.heap.size ≤ wc.heap.size := Nat.le_trans hs0 hb.size
        replace hl_R : w.heap.size < wc.heap.size := Nat.lt_of_lt_of_le hl_R hb.size
        replace HNq := Lib.hid (HNq.out.below hb)
        clear hb
        have HS2 := Lib.hid hn
        clear hn
        have HE := Lib.hid (show sN (bothN q n k) j + nmN q n j = sN (bothN q n k) (j + 1) by simp only [sN];rw [HBN.out])
        go_wp2_with fail
        go_roundw
        case rel => exact ⟨j + 1,rs,cs,by omega,by go_num,by rw [HE.out],by rw [← HE.out];exact HS2.out,HB.out,hs0⟩
        case measure => simp [intOf];omega
      · have dκ : decide (κ ≤ 0) = false := by rw [← hκ,cmpN_le];exact decide_eq_false hle
        have HBN := Lib.hid (show bothN q n k j = 0 by unfold bothN;rw [if_neg hle])
        clear hκ hle
        go_wp2_with fail
        refine (cmp_b (N := N) _ _ _ _ (nmN q n j) _ _ (nmN q n k) _ HJ.out HK.out κ HC.out).mono ?_
        rintro e wb ⟨rfl,hb⟩
        have hs_wb : wr.heap.size ≤ wb.heap.size := hb.size
        replace k_R_0 : wb.cell? ⟨w.heap.size,0,none⟩ = some (.bool false) := (hb.cell (p := ⟨w.heap.size,0,none⟩) hl_R).trans k_R_0
        replace k_R_1 : wb.cell? ⟨w.heap.size,1,none⟩ = some (.slice none 0 0) := (hb.cell (p := ⟨w.heap.size,1,none⟩) hl_R).trans k_R_1
        replace k_R_2 : wb.cell? ⟨w.heap.size,2,none⟩ = some (.slice none 0 0) := (hb.cell (p := ⟨w.heap.size,2,none⟩) hl_R).trans k_R_2
        replace f_R : ∀ o,wb.frozen? ⟨w.heap.size,o,none⟩ = false := fun o => (hb.frozen (p := ⟨w.heap.size,o,none⟩) hl_R).trans (f_R o)
        replace HX_R := Lib.hid (HX_R.out.below hb)
        replace HDq := Lib.hid (HDq.out.below hb)
        replace HS := Lib.hid (HS.out.below hb)
        replace HJ := Lib.hid (HJ.out.below hb)
        replace HK := Lib.hid (HK.out.below hb)
        replace HB := Lib.hid (HB.out.trans (hb.mono hs0))
        replace hN : N ≤ wb.heap.size := Nat.le_trans hN hb.size
        replace hs0 : wa.heap.size ≤ wb.heap.size := Nat.le_trans hs0 hb.size
        replace hl_R : w.heap.size < wb.heap.size := Nat.lt_of_lt_of_le hl_R hb.size
        replace HNq := Lib.hid (HNq.out.below hb)
        clear hb
        clear e1 e4
        go_wp2_with fail
        have HE := Lib.hid (show sN (bothN q n k) j = sN (bothN q n k) (j + 1) by simp only [sN];rw [HBN.out,Nat.add_zero])
        go_roundw
        case rel => exact ⟨j + 1,r9,c9,by omega,by go_num,by rw [← HE.out],by rw [← HE.out];exact HS.out,HB.out,hs0⟩
        case measure => simp [intOf];omega
    · obtain rfl : j = n := by omega
      go_wp2_with fail
      refine (fraction_any (N := N) _ _ _ _ (sN (bothN q j k) j) _ _ (lcN (deQ q) j) _ hN HS.out HDq.out (by omega) (by omega) p HP.out).mono ?_
      rintro e wc ⟨ru,cu,ru2,cu2,rfl,hn,hn',hb⟩
      have hs_wc : wr.heap.size ≤ wc.heap.size := hb.size
      replace k_R_0 : wc.cell? ⟨w.heap.size,0,none⟩ = some (.bool false) := (hb.cell (p := ⟨w.heap.size,0,none⟩) hl_R).trans k_R_0
      replace k_R_1 : wc.cell? ⟨w.heap.size,1,none⟩ = some (.slice none 0 0) := (hb.cell (p := ⟨w.heap.size,1,none⟩) hl_R).trans k_R_1
      replace k_R_2 : wc.cell? ⟨w.heap.size,2,none⟩ = some (.slice none 0 0) := (hb.cell (p := ⟨w.heap.size,2,none⟩) hl_R).trans k_R_2
      replace f_R : ∀ o,wc.frozen? ⟨w.heap.size,o,none⟩ = false := fun o => (hb.frozen (p := ⟨w.heap.size,o,none⟩) hl_R).trans (f_R o)
      replace HX_R := Lib.hid (HX_R.out.below hb)
      replace HDq := Lib.hid (HDq.out.below hb)
      replace HS := Lib.hid (HS.out.below hb)
      replace HB := Lib.hid (HB.out.trans (hb.mono hs0))
      replace hN : N ≤ wc.heap.size := Nat.le_trans hN hb.size
      replace hs0 : wa.heap.size ≤ wc.heap.size := Nat.le_trans hs0 hb.size
      replace hl_R : w.heap.size < wc.heap.size := Nat.lt_of_lt_of_le hl_R hb.size
      replace HNq := Lib.hid (HNq.out.below hb)
      clear hb
      have HP1 := Lib.hid hn
      clear hn
      have HQ1 := Lib.hid hn'
      clear hn'
      have HBf := Lib.hid (HBa.out.trans (HB.out.mono hsa))
      clear HB
      have HB := HBf
      go_wp2_with fail
      refine bodyPost_ret (v := .tuple #[.agg #[.bool (decide ((p).num < 0)),.slice ru (nlen (p).num.natAbs) cu,.slice ru2 (nlen (p).den) cu2],.int .i64 0]) (by simp [results,Tryz.results23,go_sem,k_R_0,k_R_1,k_R_2]) rfl ⟨_,_,_,_,rfl,HP1.out.keep ?_,HQ1.out.keep ?_,?_⟩
      all_goals exact KBA
end Go.Proofs.YtnillajhhimeiaaGreatDoor
